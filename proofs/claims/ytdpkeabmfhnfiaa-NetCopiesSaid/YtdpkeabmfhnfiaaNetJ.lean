/-
  What a net is told to be; a net behind calls; NetPlays, NetSends. Printed by gen_j.py.
-/
import Derived.Test.YtdpkeabmfhnfiaaNetI
namespace Go.Proofs.Ytdpkeabmfhnfiaa
open Go.RowKit

set_option maxRecDepth 100000 in
set_option maxHeartbeats 4000000 in
theorem is_c {w : World} {b : Nat} {A B : Option Addr} {cap cb : Nat} {most most2 : Int} {l : List Msg} (H : NetAt w b A cap most l) (hW : View msgE w B cb l) (hm : most ≠ 0) (hl : l.length ≤ 100000) : Calls Try.prog 22 #[.pointer (some ⟨b, 0, none⟩), .agg #[.int .i64 most2, .slice B l.length cb]] w (Ret fun v w' => v = .bool true ∧ New w w') := by
  have hF := Only.refl (fun _ => False) w
  refine fx_enter Try.func22 rfl (N := (31, [])) (T := [(0, .pointer (some ⟨b, 0, none⟩)), (1, .agg (#[.int .i64 most2, .slice B l.length cb]))]) rfl (show 2 ≤ 31 by decide) ⟨rfl, rfl, trivial⟩ fun a fr => ?_
  refine wp_seq ?_
  refine wp_region_lit ?_  -- region 0
  refine fx_new fr rfl rfl (by first | decide | simp) (x_box (cs := #[.int .i64 most2, .slice B l.length cb]) rfl (fr.ev rfl) rfl) ?_
  clear fr a
  intro b1 w2 hN3 B4 hb5 a fr
  have ne_b_b1 : ¬ b = b1 := Nat.ne_of_lt (Nat.lt_of_lt_of_le H.ltb hb5)
  have ap_A_b1 : Apart A b1 := H.apart hb5
  have ap_B_b1 : Apart B b1 := hW.apart hb5
  have g_b1 := Nat.le_trans hF.size hb5
  replace H := H.new hN3
  replace hW := hW.new hN3
  replace hF := hF.trNew hN3
  refine fx_val (v := .bool false) fr rfl rfl (by first | decide | simp) (x_assign rfl rfl) ?_
  clear fr a; intro a fr
  refine wpList_nil ?_
  refine fx_next ?_
  refine wp_seq ?_
  refine wp_seq ?_
  refine wp_region_lit ?_  -- region 1
  refine fx_val (v := .int .i64 (-1)) fr rfl rfl (by first | decide | simp) (x_assign rfl rfl) ?_
  clear fr a; intro a fr
  refine wpList_nil ?_
  refine fx_next ?_
  refine wp_block ?_
  refine fx_loop (fun nM a wL => ∃ x : Int, nM = (6 - x).toNat ∧ Fr (31, []) [(0, .pointer (some ⟨b, 0, none⟩)), (3, .pointer (some ⟨b1, 0, none⟩)), (4, .bool false), (5, .int .i64 x)] a ∧ Only (fun _ => False) w wL ∧ NetAt wL b A cap most l ∧ View msgE wL B cb l ∧ Blk wL b1 49 (#[.int .i64 most2, .slice B l.length cb]) ∧ -1 ≤ x ∧ x ≤ 6) (n0 := _) ⟨(-1), rfl, fr.sub ⟨rfl, rfl, rfl, rfl, trivial⟩, hF, H, hW, B4, by omega, by omega⟩ ?_
  rintro n7 a w6 ⟨x, rfl, fr, hF, H, hW, B4, hp8, hp9⟩
  refine wp_seq ?_
  refine wp_seq ?_
  refine wp_region_lit ?_  -- region 2
  refine fx_val (v := .int .i64 x) fr rfl rfl (by first | decide | simp) (x_move rfl (fr.ev rfl)) ?_
  clear fr a; intro a fr
  refine fx_val (v := .bool (decide (x ≤ 5))) fr rfl rfl (by first | decide | simp) (x_leq rfl (fr.ev rfl) rfl rfl) ?_
  clear fr a; intro a fr
  refine wpList_nil ?_
  refine fx_next ?_
  refine fx_cond fr rfl (fun hc10 => ?_) (fun hc10 => ?_)
  · skip
    have hc10 := of_decide_eq_true hc10
    refine wp_skip ?_
    refine fx_next ?_
    refine wp_seq ?_
    refine wp_block ?_
    refine wp_seq ?_
    refine fx_held (n := 8) (fun w => NetAt w b A cap most l ∧ View msgE w B cb l ∧ Blk w b1 49 (#[.int .i64 most2, .slice B l.length cb]) ∧ True) (by kernel_rfl) rfl ?_  -- region 4
    intro w11 hN12
    replace H := H.new hN12
    replace hW := hW.new hN12
    replace B4 := B4.new hN12
    replace hF := hF.trNew hN12
    refine fx_take (i := 0) (v := .pointer (some ⟨b, 0, none⟩)) fr rfl (by kernel_rfl) rfl rfl (by first | decide | simp) (fun _ _ _ h => h) (fun _ ⟨H, hW, B4, _⟩ => x_move rfl (fr.ev rfl)) ⟨H, hW, B4, trivial⟩ ?_
    clear fr a; intro a fr
    refine fx_take (i := 1) (v := .int .i64 x) fr rfl (by kernel_rfl) rfl rfl (by first | decide | simp) (fun _ _ _ h => h) (fun _ ⟨H, hW, B4, _⟩ => x_move rfl (fr.ev rfl)) ⟨H, hW, B4, trivial⟩ ?_
    clear fr a; intro a fr
    refine fx_take (i := 3) (v := .agg (#[.int .i64 most2, .slice B l.length cb])) fr rfl (by kernel_rfl) rfl rfl (by first | decide | simp) (fun _ _ _ h => h) (fun _ ⟨H, hW, B4, _⟩ => x_loadS ag49 rfl (fr.ev rfl) rfl B4.range) ⟨H, hW, B4, trivial⟩ ?_
    clear fr a; intro a fr
    refine fx_take (i := 4) (v := .int .i64 x) fr rfl (by kernel_rfl) rfl rfl (by first | decide | simp) (fun _ _ _ h => h) (fun _ ⟨H, hW, B4, _⟩ => x_move rfl (fr.ev rfl)) ⟨H, hW, B4, trivial⟩ ?_
    clear fr a; intro a fr
    refine fx_one (i := 2) (by kernel_rfl) (fx_op rfl ?_)
    refine fx_call fr rfl rfl (by first | decide | simp) (x_call (vs := [.pointer (some ⟨b, 0, none⟩), .int .i64 x]) rfl rfl ⟨(fr.ev rfl), (fr.ev rfl), trivial⟩ Try.func25 nm25 rfl) (to_c x H (by omega) (by omega)) ?_
    clear fr a
    rintro v w17 ⟨A13, cap14, rfl, O15, hA16, hN18⟩ a fr
    have ap_A13_b : Apart A13 b := new_apart hA16 H.ltb
    have ap2_A_A13 : Apart2 A A13 := (new_apart2 hA16 fun _ hg => H.lt hg).symm
    have ap2_B_A13 : Apart2 B A13 := (new_apart2 hA16 fun _ hg => hW.lt hg).symm
    have ap_A13_b1 : Apart A13 b1 := new_apart hA16 B4.lt
    have gA_A13 := gA_new hF hA16
    replace H := H.new hN18
    replace hW := hW.new hN18
    replace B4 := B4.new hN18
    replace hF := hF.trNew hN18
    refine wpList_nil ?_
    refine ⟨⟨H, hW, B4, trivial⟩, ?_⟩
    refine fx_one (i := 5) (by kernel_rfl) (fx_op rfl ?_)
    refine fx_call fr rfl rfl (by first | decide | simp) (x_call (vs := [.agg (#[.int .i64 most2, .slice B l.length cb]), .int .i64 x]) rfl rfl ⟨(fr.ev rfl), (fr.ev rfl), trivial⟩ Try.func32 nm32 rfl) (rto_c x hW (by omega)) ?_
    clear fr a
    rintro v w23 ⟨A19, cap20, rfl, O21, hA22, hN24⟩ a fr
    have ap_A19_b : Apart A19 b := new_apart hA22 H.ltb
    have ap2_A_A19 : Apart2 A A19 := (new_apart2 hA22 fun _ hg => H.lt hg).symm
    have ap2_B_A19 : Apart2 B A19 := (new_apart2 hA22 fun _ hg => hW.lt hg).symm
    have ap_A19_b1 : Apart A19 b1 := new_apart hA22 B4.lt
    have ap2_A13_A19 : Apart2 A13 A19 := (new_apart2 hA22 fun _ hg => O15.lt hg).symm
    have gA_A19 := gA_new hF hA22
    replace H := H.new hN24
    replace hW := hW.new hN24
    replace B4 := B4.new hN24
    replace O15 := O15.new hN24
    replace hF := hF.trNew hN24
    refine wpList_nil ?_
    refine ⟨⟨H, hW, B4, trivial⟩, ?_⟩
    refine fx_one (i := 6) (by kernel_rfl) (fx_op rfl ?_)
    refine fx_call fr rfl rfl (by first | decide | simp) (x_call (vs := [.slice A13 ((selAll x l).length) cap14, .slice A19 ((selAll x l).length) cap20]) rfl rfl ⟨(fr.ev rfl), (fr.ev rfl), trivial⟩ Try.func18 nm18 rfl) (same_c (O15.view) (O21.view)) ?_
    clear fr a
    rintro v w25 ⟨rfl, hN26⟩ a fr
    replace H := H.new hN26
    replace hW := hW.new hN26
    replace B4 := B4.new hN26
    replace O15 := O15.new hN26
    replace O21 := O21.new hN26
    replace hF := hF.trNew hN26
    rw [show decide (selAll x l = selAll x l) = true from decide_eq_true rfl] at fr
    refine wpList_nil ?_
    refine ⟨⟨H, hW, B4, trivial⟩, ?_⟩
    refine fx_take (i := 7) (v := .bool false) fr rfl (by kernel_rfl) rfl rfl (by first | decide | simp) (fun _ _ _ h => h) (fun _ ⟨H, hW, B4, _⟩ => x_not rfl (fr.ev rfl) rfl) ⟨H, hW, B4, trivial⟩ ?_
    clear fr a; intro a fr
    refine fx_hdone (by kernel_rfl) ?_
    refine fx_next ?_
    refine fx_cond_f fr rfl ?_
    refine wp_skip ?_
    refine fx_blk ?_
    refine fx_next ?_
    refine wp_region_lit ?_  -- region 3
    refine fx_val (v := .int .i64 x) fr rfl rfl (by first | decide | simp) (x_move rfl (fr.ev rfl)) ?_
    clear fr a; intro a fr
    refine fx_val (v := .int .i64 (x + 1)) fr rfl rfl (by first | decide | simp) (x_add rfl (fr.ev rfl) rfl (i64w (r := x + 1) (by omega) (by omega))) ?_
    clear fr a; intro a fr
    refine fx_val (v := .int .i64 (x + 1)) fr rfl rfl (by first | decide | simp) (x_assign rfl (fr.ev rfl)) ?_
    clear fr a; intro a fr
    refine wpList_nil ?_
    refine fx_next ?_
    exact ⟨_, by omega, (x + 1), rfl, fr.sub ⟨rfl, rfl, rfl, rfl, trivial⟩, hF, H, hW, B4, by omega, by omega⟩
  · skip
    have hc10 := of_decide_eq_false hc10
    refine wp_exit ?_
    refine fx_xt ?_
    refine fx_xt ?_
    refine fx_xx ?_
    refine fx_next ?_
    refine wp_seq ?_
    refine fx_heldT (n := 13) (k := 13) (fun w => NetAt w b A cap most l ∧ View msgE w B cb l ∧ Blk w b1 49 (#[.int .i64 most2, .slice B l.length cb]) ∧ True) (by kernel_rfl) (by kernel_rfl) rfl ?_  -- region 6
    intro w27 hN28
    replace H := H.new hN28
    replace hW := hW.new hN28
    replace B4 := B4.new hN28
    replace hF := hF.trNew hN28
    refine fx_take (i := 0) (v := .pointer (some ⟨b, 0, none⟩)) fr rfl (by kernel_rfl) rfl rfl (by first | decide | simp) (fun _ _ _ h => h) (fun _ ⟨H, hW, B4, _⟩ => x_move rfl (fr.ev rfl)) ⟨H, hW, B4, trivial⟩ ?_
    clear fr a; intro a fr
    refine fx_take (i := 2) (v := .pointer (some ⟨b1, 1, none⟩)) fr rfl (by kernel_rfl) rfl rfl (by first | decide | simp) (fun _ _ _ h => h) (fun _ ⟨H, hW, B4, _⟩ => x_fieldAddr fo49_1 rfl (fr.ev rfl) rfl) ⟨H, hW, B4, trivial⟩ ?_
    clear fr a; intro a fr
    refine fx_take (i := 3) (v := .slice B l.length cb) fr rfl (by kernel_rfl) rfl rfl (by first | decide | simp) (fun _ _ _ h => h) (fun _ ⟨H, hW, B4, _⟩ => x_load1 pl38 rfl (fr.ev rfl) (B4.cell 1 rfl)) ⟨H, hW, B4, trivial⟩ ?_
    clear fr a; intro a fr
    refine fx_one (i := 1) (by kernel_rfl) (fx_op rfl ?_)
    refine fx_call fr rfl rfl (by first | decide | simp) (x_call (vs := [.pointer (some ⟨b, 0, none⟩)]) rfl rfl ⟨(fr.ev rfl), trivial⟩ Try.func17 nm17 rfl) (ready_c H (by omega) (by omega)) ?_
    clear fr a
    rintro v w33 ⟨A29, cap30, rfl, O31, hA32, hN34⟩ a fr
    have ap_A29_b : Apart A29 b := new_apart hA32 H.ltb
    have ap2_A_A29 : Apart2 A A29 := (new_apart2 hA32 fun _ hg => H.lt hg).symm
    have ap2_B_A29 : Apart2 B A29 := (new_apart2 hA32 fun _ hg => hW.lt hg).symm
    have ap_A29_b1 : Apart A29 b1 := new_apart hA32 B4.lt
    have gA_A29 := gA_new hF hA32
    replace H := H.new hN34
    replace hW := hW.new hN34
    replace B4 := B4.new hN34
    replace hF := hF.trNew hN34
    refine wpList_nil ?_
    refine ⟨⟨H, hW, B4, trivial⟩, ?_⟩
    refine fx_one (i := 4) (by kernel_rfl) (fx_op rfl ?_)
    refine fx_call fr rfl rfl (by first | decide | simp) (x_call (vs := [.slice A29 l.length cap30, .slice B l.length cb]) rfl rfl ⟨(fr.ev rfl), (fr.ev rfl), trivial⟩ Try.func18 nm18 rfl) (same_c (O31.view) (hW)) ?_
    clear fr a
    rintro v w35 ⟨rfl, hN36⟩ a fr
    replace H := H.new hN36
    replace hW := hW.new hN36
    replace B4 := B4.new hN36
    replace O31 := O31.new hN36
    replace hF := hF.trNew hN36
    rw [show decide (l = l) = true from decide_eq_true rfl] at fr
    refine wpList_nil ?_
    refine ⟨⟨H, hW, B4, trivial⟩, ?_⟩
    refine fx_take (i := 5) (v := .bool true) fr rfl (by kernel_rfl) rfl rfl (by first | decide | simp) (fun _ _ _ h => h) (fun _ ⟨H, hW, B4, _⟩ => x_move rfl (fr.ev rfl)) ⟨H, hW, B4, trivial⟩ ?_
    clear fr a; intro a fr
    refine fx_take (i := 6) (v := .pointer (some ⟨b, 0, none⟩)) fr rfl (by kernel_rfl) (fr.want rfl rfl rfl) rfl (by first | decide | simp) (fun _ _ _ h => h) (fun _ ⟨H, hW, B4, _⟩ => x_move rfl (fr.ev rfl)) ⟨H, hW, B4, trivial⟩ ?_
    clear fr a; intro a fr
    refine fx_take (i := 8) (v := .pointer (some ⟨b1, 1, none⟩)) fr rfl (by kernel_rfl) (fr.want rfl rfl rfl) rfl (by first | decide | simp) (fun _ _ _ h => h) (fun _ ⟨H, hW, B4, _⟩ => x_fieldAddr fo49_1 rfl (fr.ev rfl) rfl) ⟨H, hW, B4, trivial⟩ ?_
    clear fr a; intro a fr
    refine fx_take (i := 9) (v := .slice B l.length cb) fr rfl (by kernel_rfl) (fr.want rfl rfl rfl) rfl (by first | decide | simp) (fun _ _ _ h => h) (fun _ ⟨H, hW, B4, _⟩ => x_load1 pl38 rfl (fr.ev rfl) (B4.cell 1 rfl)) ⟨H, hW, B4, trivial⟩ ?_
    clear fr a; intro a fr
    refine fx_take (i := 10) (v := .int .i64 ((l.length : Nat) : Int)) fr rfl (by kernel_rfl) (fr.want rfl rfl rfl) rfl (by first | decide | simp) (fun _ _ _ h => h) (fun _ ⟨H, hW, B4, _⟩ => x_len Try.underlying38 rfl (fr.ev rfl)) ⟨H, hW, B4, trivial⟩ ?_
    clear fr a; intro a fr
    refine fx_one (i := 7) (by kernel_rfl) (fx_op rfl ?_)
    refine fx_call fr (fr.want rfl rfl rfl) rfl (by first | decide | simp) (x_call (vs := [.pointer (some ⟨b, 0, none⟩)]) rfl rfl ⟨(fr.ev rfl), trivial⟩ Try.func19 nm19 rfl) (len_c H (by omega)) ?_
    clear fr a
    rintro v _ ⟨rfl, rfl⟩ a fr
    refine wpList_nil ?_
    refine ⟨⟨H, hW, B4, trivial⟩, ?_⟩
    refine fx_take (i := 11) (v := .bool true) fr rfl (by kernel_rfl) (fr.want rfl rfl rfl) rfl (by first | decide | simp) (fun _ _ _ h => h) (fun _ ⟨H, hW, B4, _⟩ => x_eql rfl (fr.ev rfl) (fr.ev rfl) (by simp)) ⟨H, hW, B4, trivial⟩ ?_
    clear fr a; intro a fr
    refine fx_take (i := 12) (v := .bool true) fr rfl (by kernel_rfl) rfl rfl (by first | decide | simp) (fun _ _ _ h => h) (fun _ ⟨H, hW, B4, _⟩ => x_pick_t rfl (fr.ev rfl) (fr.ev rfl)) ⟨H, hW, B4, trivial⟩ ?_
    clear fr a; intro a fr
    refine fx_hdone (by kernel_rfl) ?_
    refine fx_tail ?_
    refine fx_val (v := .bool true) fr rfl rfl (by first | decide | simp) (x_assign rfl (fr.ev rfl)) ?_
    clear fr a; intro a fr
    refine wpList_nil ?_
    refine fx_next ?_
    refine wp_ret ?_
    refine fx_ret fr [.tmp 4] [.bool true] rfl ⟨rfl, trivial⟩ rfl ?_
    exact ⟨_, rfl, rfl, hF⟩
set_option maxRecDepth 100000 in
set_option maxHeartbeats 4000000 in
theorem played_c {w : World} {P : Option Addr} {cp : Nat} {la : List NAct} {most : Int} (hV : View actE w P cp la) (h1 : 1 ≤ most) (h2 : most ≤ 1024) (hlen : la.length ≤ 100) : Calls Try.prog 21 #[.int .i64 most, .slice P la.length cp] w (Ret fun v w' => ∃ b A cap l V vc, v = .tuple #[.pointer (some ⟨b, 0, none⟩), .agg #[.int .i64 most, .slice V l.length vc], .bool true] ∧ NetAt w' b A cap most l ∧ View msgE w' V vc l ∧ l.length ≤ 100 ∧ w.heap.size ≤ b ∧ (∀ g, inA A g → w.heap.size ≤ g) ∧ (∀ g, inA V g → w.heap.size ≤ g) ∧ Apart V b ∧ Apart2 A V ∧ New w w') := by
  have hF := Only.refl (fun _ => False) w
  refine fx_enter Try.func21 rfl (N := (87, [])) (T := [(0, .int .i64 most), (1, .slice P la.length cp)]) rfl (show 2 ≤ 87 by decide) ⟨rfl, rfl, trivial⟩ fun a fr => ?_
  refine wp_seq ?_
  refine wp_region_lit ?_  -- region 0
  refine fx_val (v := .pointer none) fr rfl rfl (by first | decide | simp) (x_assign rfl rfl) ?_
  clear fr a; intro a fr
  refine fx_new fr rfl rfl (by first | decide | simp) (x_alloc (z := .agg (#[.int .i64 0, .slice none 0 0])) (cs := #[.int .i64 0, .slice none 0 0]) rfl (by kernel_rfl) rfl) ?_
  clear fr a
  intro b1 w2 hN3 B4 hb5 a fr
  have ap_P_b1 : Apart P b1 := hV.apart hb5
  have g_b1 := Nat.le_trans hF.size hb5
  replace hV := hV.new hN3
  replace hF := hF.trNew hN3
  refine fx_val (v := .bool false) fr rfl rfl (by first | decide | simp) (x_assign rfl rfl) ?_
  clear fr a; intro a fr
  refine wpList_nil ?_
  refine fx_next ?_
  refine wp_seq ?_
  refine wp_region_lit ?_  -- region 1
  refine fx_val (v := .int .i64 most) fr rfl rfl (by first | decide | simp) (x_move rfl (fr.ev rfl)) ?_
  clear fr a; intro a fr
  refine fx_call fr rfl rfl (by first | decide | simp) (x_call (vs := [.int .i64 most]) rfl rfl ⟨(fr.ev rfl), trivial⟩ Try.func14 nm14 rfl) (new_yes most _ (by omega) (by omega)) ?_
  clear fr a
  rintro v w12 ⟨b6, A7, cap8, rfl, H9, hb10, hA11, hN13⟩ a fr
  have ap_P_b6 : Apart P b6 := hV.apart hb10
  have ne_b1_b6 : ¬ b1 = b6 := Nat.ne_of_lt (Nat.lt_of_lt_of_le B4.lt hb10)
  have g_b6 := Nat.le_trans hF.size hb10
  have ap2_P_A7 : Apart2 P A7 := (new_apart2 hA11 fun _ hg => hV.lt hg).symm
  have ap_A7_b1 : Apart A7 b1 := new_apart hA11 B4.lt
  have gA_A7 := gA_new hF hA11
  replace hV := hV.new hN13
  replace B4 := B4.new hN13
  replace hF := hF.trNew hN13
  refine fx_val (v := .tuple #[.pointer (some ⟨b6, 0, none⟩), .int .i64 0]) fr rfl rfl (by first | decide | simp) (x_move rfl (fr.ev rfl)) ?_
  clear fr a; intro a fr
  refine fx_val (v := .pointer (some ⟨b6, 0, none⟩)) fr rfl rfl (by first | decide | simp) (x_extract rfl (fr.ev rfl) rfl) ?_
  clear fr a; intro a fr
  refine fx_val (v := .int .i64 0) fr rfl rfl (by first | decide | simp) (x_extract rfl (fr.ev rfl) rfl) ?_
  clear fr a; intro a fr
  refine fx_val (v := .pointer (some ⟨b6, 0, none⟩)) fr rfl rfl (by first | decide | simp) (x_assign rfl (fr.ev rfl)) ?_
  clear fr a; intro a fr
  refine fx_val (v := .int .i64 0) fr rfl rfl (by first | decide | simp) (x_assign rfl (fr.ev rfl)) ?_
  clear fr a; intro a fr
  refine wpList_nil ?_
  refine fx_next ?_
  refine wp_seq ?_
  refine wp_region_lit ?_  -- region 2
  refine fx_val (v := .int .i64 most) fr rfl rfl (by first | decide | simp) (x_move rfl (fr.ev rfl)) ?_
  clear fr a; intro a fr
  refine fx_val (v := .agg (#[.int .i64 most, .slice none 0 0])) fr rfl rfl (by first | decide | simp) (x_build (cells := #[.int .i64 most, .slice none 0 0]) rfl (by simp only [List.map_toArray, List.map_cons, List.map_nil, show a.eval (.tmp 24) = .int .i64 most from fr.ev rfl]; kernel_rfl)) ?_
  clear fr a; intro a fr
  refine fx_new fr rfl rfl (by first | decide | simp) (x_alloc (z := .agg (#[.int .i64 0, .slice none 0 0])) (cs := #[.int .i64 0, .slice none 0 0]) rfl (by kernel_rfl) rfl) ?_
  clear fr a
  intro b14 w15 hN16 B17 hb18 a fr
  have ap_P_b14 : Apart P b14 := hV.apart hb18
  have ne_b1_b14 : ¬ b1 = b14 := Nat.ne_of_lt (Nat.lt_of_lt_of_le B4.lt hb18)
  have ne_b6_b14 : ¬ b6 = b14 := Nat.ne_of_lt (Nat.lt_of_lt_of_le H9.ltb hb18)
  have ap_A7_b14 : Apart A7 b14 := H9.apart hb18
  have g_b14 := Nat.le_trans hF.size hb18
  replace hV := hV.new hN16
  replace B4 := B4.new hN16
  replace H9 := H9.new hN16
  replace hF := hF.trNew hN16
  refine fx_storeS sz49 rfl rfl rfl (fr.ev rfl) (fr.ev rfl) (by simp [Value.oneCell']) B17 rfl rfl fun w19 hO20 hBq => ?_
  replace hV := hV.only hO20 (Apart.ne1 ap_P_b14)
  replace B4 := B4.only hO20 (by show ¬ b1 = b14; omega)
  replace H9 := H9.only hO20 (by show ¬ b6 = b14; omega) (Apart.ne1 ap_A7_b14)
  replace hF := hF.loc hO20 (.inr g_b14)
  replace B17 := hBq
  clear hBq
  refine wpList_nil ?_
  refine fx_next ?_
  refine wp_seq ?_
  refine wp_seq ?_
  refine wp_region_lit ?_  -- region 3
  refine fx_val (v := .int .i64 0) fr rfl rfl (by first | decide | simp) (x_assign rfl rfl) ?_
  clear fr a; intro a fr
  refine wpList_nil ?_
  refine fx_next ?_
  refine wp_block ?_
  refine fx_loop (fun nM a wL => ∃ A : Option Addr, ∃ cap : Nat, ∃ l : List Msg, ∃ V : Option Addr, ∃ vc : Nat, ∃ i : Nat, nM = la.length - i ∧ Fr (87, []) [(1, .slice P la.length cp), (4, .pointer none), (5, .pointer (some ⟨b1, 0, none⟩)), (6, .bool false), (7, .pointer (some ⟨b6, 0, none⟩)), (8, .int .i64 0), (9, .pointer (some ⟨b14, 0, none⟩)), (10, .int .i64 ((i : Nat) : Int))] a ∧ Only (fun _ => False) w wL ∧ View actE wL P cp la ∧ NetAt wL b6 A cap most l ∧ Blk wL b14 49 #[.int .i64 most, .slice V l.length vc] ∧ View msgE wL V vc l ∧ Blk wL b1 49 (#[.int .i64 0, .slice none 0 0]) ∧ i ≤ la.length ∧ l.length ≤ i ∧ (Apart2 P A) ∧ (Apart A b14) ∧ (Apart V b6) ∧ (Apart2 A V) ∧ (Apart A b1) ∧ (Apart V b14) ∧ (Apart V b1) ∧ (∀ g, inA A g → (fun _ => False) g ∨ w.heap.size ≤ g) ∧ (∀ g, inA V g → (fun _ => False) g ∨ w.heap.size ≤ g)) (n0 := _) ⟨A7, cap8, [], none, 0, 0, rfl, fr.sub ⟨rfl, rfl, rfl, rfl, rfl, rfl, rfl, rfl, trivial⟩, hF, hV, H9, B17, View.nil, B4, by omega, Nat.le_refl _, ap2_P_A7, ap_A7_b14, (apart_none b6), (fun k _ h => apart_none k h), ap_A7_b1, (apart_none b14), (apart_none b1), gA_A7, gA_none⟩ ?_
  rintro n22 a w21 ⟨A, cap, l, V, vc, i, rfl, fr, hF, hV, H, Bw, hW, B5, hi, hli, ap2_P_A, ap_A_b14, ap_V_b6, ap2_A_V, ap_A_b1, ap_V_b14, ap_V_b1, gA_A, gA_V⟩
  refine wp_seq ?_
  refine wp_seq ?_
  refine wp_region_lit ?_  -- region 4
  refine fx_val (v := .int .i64 ((i : Nat) : Int)) fr rfl rfl (by first | decide | simp) (x_move rfl (fr.ev rfl)) ?_
  clear fr a; intro a fr
  refine fx_val (v := .slice P la.length cp) fr rfl rfl (by first | decide | simp) (x_move rfl (fr.ev rfl)) ?_
  clear fr a; intro a fr
  refine fx_val (v := .int .i64 ((la.length : Nat) : Int)) fr rfl rfl (by first | decide | simp) (x_len Try.underlying33 rfl (fr.ev rfl)) ?_
  clear fr a; intro a fr
  refine fx_val (v := .bool (decide (((i : Nat) : Int) < ((la.length : Nat) : Int)))) fr rfl rfl (by first | decide | simp) (x_lss rfl (fr.ev rfl) (fr.ev rfl) rfl) ?_
  clear fr a; intro a fr
  refine wpList_nil ?_
  refine fx_next ?_
  refine fx_cond fr rfl (fun hc23 => ?_) (fun hc23 => ?_)
  · skip
    have hc23 := of_decide_eq_true hc23
    refine wp_skip ?_
    refine fx_next ?_
    refine wp_seq ?_
    refine wp_block ?_
    refine wp_seq ?_
    refine wp_region_lit ?_  -- region 6
    refine fx_val (v := .slice P la.length cp) fr rfl rfl (by first | decide | simp) (x_move rfl (fr.ev rfl)) ?_
    clear fr a; intro a fr
    refine fx_val (v := .int .i64 ((i : Nat) : Int)) fr rfl rfl (by first | decide | simp) (x_move rfl (fr.ev rfl)) ?_
    clear fr a; intro a fr
    obtain ⟨g24, o25, hA26⟩ := (hV).some_ (by omega)
    refine fx_val (v := .pointer (some ⟨g24, o25 + i * 22, none⟩)) fr rfl rfl (by first | decide | simp) (x_indexV Try.underlying33 sz40 rfl (fr.ev rfl) hA26 (fr.ev rfl) (by omega) rfl) ?_
    clear fr a; intro a fr
    refine fx_val (v := .agg (actE.arr (la.getD i act0))) fr rfl rfl (by first | decide | simp) (x_loadE (E := actE) ag40 rfl rfl (fr.ev rfl) ((hV).elem hA26 i act0 (by omega))) ?_
    clear fr a; intro a fr
    refine fx_new fr rfl rfl (by first | decide | simp) (x_alloc (z := .agg (#[.int .i64 0, .int .i64 0, .int .i64 0, .int .i64 0, .int .u32 0, .int .u8 0, .int .u8 0, .int .u8 0, .int .u8 0, .int .u8 0, .int .u8 0, .int .u8 0, .int .u8 0, .int .u8 0, .int .u8 0, .int .u8 0, .int .u8 0, .int .u8 0, .int .u8 0, .int .u8 0, .int .u8 0, .int .i64 0])) (cs := actE.arr act0) rfl (by kernel_rfl) rfl) ?_
    clear fr a
    intro b27 w28 hN29 B30 hb31 a fr
    have ap_P_b27 : Apart P b27 := hV.apart hb31
    have ne_b6_b27 : ¬ b6 = b27 := Nat.ne_of_lt (Nat.lt_of_lt_of_le H.ltb hb31)
    have ap_A_b27 : Apart A b27 := H.apart hb31
    have ne_b14_b27 : ¬ b14 = b27 := Nat.ne_of_lt (Nat.lt_of_lt_of_le Bw.lt hb31)
    have ap_V_b27 : Apart V b27 := hW.apart hb31
    have ne_b1_b27 : ¬ b1 = b27 := Nat.ne_of_lt (Nat.lt_of_lt_of_le B5.lt hb31)
    have g_b27 := Nat.le_trans hF.size hb31
    replace hV := hV.new hN29
    replace H := H.new hN29
    replace Bw := Bw.new hN29
    replace hW := hW.new hN29
    replace B5 := B5.new hN29
    replace hF := hF.trNew hN29
    refine fx_storeS sz40 rfl rfl rfl (fr.ev rfl) (fr.ev rfl) (actE.all _) B30 (actE.size _) (actE.size _) fun w32 hO33 hBq => ?_
    replace hV := hV.only hO33 (Apart.ne1 ap_P_b27)
    replace H := H.only hO33 (by show ¬ b6 = b27; omega) (Apart.ne1 ap_A_b27)
    replace Bw := Bw.only hO33 (by show ¬ b14 = b27; omega)
    replace hW := hW.only hO33 (Apart.ne1 ap_V_b27)
    replace B5 := B5.only hO33 (by show ¬ b1 = b27; omega)
    replace hF := hF.loc hO33 (.inr g_b27)
    replace B30 := hBq
    clear hBq
    refine wpList_nil ?_
    refine fx_next ?_
    refine wp_seq ?_
    refine wp_seq ?_
    refine wp_region_lit ?_  -- region 7
    refine fx_val (v := .pointer (some ⟨b27, 0, none⟩)) fr rfl rfl (by first | decide | simp) (x_fieldAddr fo40_0 rfl (fr.ev rfl) rfl) ?_
    clear fr a; intro a fr
    refine fx_val (v := .int .i64 ((la.getD i act0).what)) fr rfl rfl (by first | decide | simp) (x_load1 pl3 rfl (fr.ev rfl) (B30.cell 0 rfl)) ?_
    clear fr a; intro a fr
    refine fx_val (v := .bool (decide ((la.getD i act0).what ≠ 0))) fr rfl rfl (by first | decide | simp) (x_neq rfl (fr.ev rfl) rfl rfl) ?_
    clear fr a; intro a fr
    refine wpList_nil ?_
    refine fx_next ?_
    refine fx_cond fr rfl (fun hc34 => ?_) (fun hc34 => ?_)
    · skip
      have hc34 := of_decide_eq_true hc34
      refine wp_seq ?_
      refine wp_region_lit ?_  -- region 8
      refine fx_val (v := .agg (#[.int .i64 most, .slice V l.length vc])) fr rfl rfl (by first | decide | simp) (x_loadS ag49 rfl (fr.ev rfl) rfl Bw.range) ?_
      clear fr a; intro a fr
      refine fx_val (v := .pointer (some ⟨b27, 21, none⟩)) fr rfl rfl (by first | decide | simp) (x_fieldAddr fo40_2 rfl (fr.ev rfl) rfl) ?_
      clear fr a; intro a fr
      refine fx_val (v := .int .i64 ((la.getD i act0).pick)) fr rfl rfl (by first | decide | simp) (x_load1 pl3 rfl (fr.ev rfl) (B30.cell 21 (act_pickA _))) ?_
      clear fr a; intro a fr
      refine fx_call fr rfl rfl (by first | decide | simp) (x_call (vs := [.agg (#[.int .i64 most, .slice V l.length vc]), .int .i64 ((la.getD i act0).pick)]) rfl rfl ⟨(fr.ev rfl), (fr.ev rfl), trivial⟩ Try.func24 nm24 rfl) (rdeliver_c ((la.getD i act0).pick) hW (by omega)) ?_
      clear fr a
      rintro v w39 ⟨A35, cap36, rfl, V37, mv38, hN40⟩ a fr
      have ap_A35_b6 : Apart A35 b6 := moved_apart mv38 ap_V_b6 H.ltb
      have ap2_A35_A : Apart2 A35 A := moved_apart2 mv38 ap2_A_V.symm fun _ hg => H.lt hg
      have ap_A35_b14 : Apart A35 b14 := moved_apart mv38 ap_V_b14 Bw.lt
      have ap_A35_b1 : Apart A35 b1 := moved_apart mv38 ap_V_b1 B5.lt
      have ap_A35_b27 : Apart A35 b27 := moved_apart mv38 ap_V_b27 B30.lt
      have gA_A35 := gA_moved hF mv38 gA_V
      replace hV := hV.new hN40
      replace H := H.new hN40
      replace Bw := Bw.new hN40
      replace hW := hW.new hN40
      replace B5 := B5.new hN40
      replace B30 := B30.new hN40
      replace hF := hF.trNew hN40
      refine fx_val (v := .tuple #[.agg (#[.int .i64 most, .slice A35 ((delL ((la.getD i act0).pick) l).length) cap36]), .agg (msgE.arr (delM ((la.getD i act0).pick) l)), .bool (decide (l ≠ []))]) fr rfl rfl (by first | decide | simp) (x_move rfl (fr.ev rfl)) ?_
      clear fr a; intro a fr
      refine fx_val (v := .agg (#[.int .i64 most, .slice A35 ((delL ((la.getD i act0).pick) l).length) cap36])) fr rfl rfl (by first | decide | simp) (x_extract rfl (fr.ev rfl) rfl) ?_
      clear fr a; intro a fr
      refine fx_val (v := .agg (msgE.arr (delM ((la.getD i act0).pick) l))) fr rfl rfl (by first | decide | simp) (x_extract rfl (fr.ev rfl) rfl) ?_
      clear fr a; intro a fr
      refine fx_val (v := .bool (decide (l ≠ []))) fr rfl rfl (by first | decide | simp) (x_extract rfl (fr.ev rfl) rfl) ?_
      clear fr a; intro a fr
      refine fx_new fr rfl rfl (by first | decide | simp) (x_alloc (z := .agg (#[.int .i64 0, .slice none 0 0])) (cs := #[.int .i64 0, .slice none 0 0]) rfl (by kernel_rfl) rfl) ?_
      clear fr a
      intro b41 w42 hN43 B44 hb45 a fr
      have ap_P_b41 : Apart P b41 := hV.apart hb45
      have ne_b6_b41 : ¬ b6 = b41 := Nat.ne_of_lt (Nat.lt_of_lt_of_le H.ltb hb45)
      have ap_A_b41 : Apart A b41 := H.apart hb45
      have ne_b14_b41 : ¬ b14 = b41 := Nat.ne_of_lt (Nat.lt_of_lt_of_le Bw.lt hb45)
      have ap_V_b41 : Apart V b41 := hW.apart hb45
      have ne_b1_b41 : ¬ b1 = b41 := Nat.ne_of_lt (Nat.lt_of_lt_of_le B5.lt hb45)
      have ne_b27_b41 : ¬ b27 = b41 := Nat.ne_of_lt (Nat.lt_of_lt_of_le B30.lt hb45)
      have ap_A35_b41 : Apart A35 b41 := V37.apart hb45
      have g_b41 := Nat.le_trans hF.size hb45
      replace hV := hV.new hN43
      replace H := H.new hN43
      replace Bw := Bw.new hN43
      replace hW := hW.new hN43
      replace B5 := B5.new hN43
      replace B30 := B30.new hN43
      replace V37 := V37.new hN43
      replace hF := hF.trNew hN43
      refine fx_new fr rfl rfl (by first | decide | simp) (x_alloc (z := .agg (#[.int .i64 0, .int .i64 0, .int .i64 0, .int .u32 0, .int .u8 0, .int .u8 0, .int .u8 0, .int .u8 0, .int .u8 0, .int .u8 0, .int .u8 0, .int .u8 0, .int .u8 0, .int .u8 0, .int .u8 0, .int .u8 0, .int .u8 0, .int .u8 0, .int .u8 0, .int .u8 0])) (cs := msgE.arr msg0) rfl (by kernel_rfl) rfl) ?_
      clear fr a
      intro b46 w47 hN48 B49 hb50 a fr
      have ap_P_b46 : Apart P b46 := hV.apart hb50
      have ne_b6_b46 : ¬ b6 = b46 := Nat.ne_of_lt (Nat.lt_of_lt_of_le H.ltb hb50)
      have ap_A_b46 : Apart A b46 := H.apart hb50
      have ne_b14_b46 : ¬ b14 = b46 := Nat.ne_of_lt (Nat.lt_of_lt_of_le Bw.lt hb50)
      have ap_V_b46 : Apart V b46 := hW.apart hb50
      have ne_b1_b46 : ¬ b1 = b46 := Nat.ne_of_lt (Nat.lt_of_lt_of_le B5.lt hb50)
      have ne_b27_b46 : ¬ b27 = b46 := Nat.ne_of_lt (Nat.lt_of_lt_of_le B30.lt hb50)
      have ap_A35_b46 : Apart A35 b46 := V37.apart hb50
      have ne_b41_b46 : ¬ b41 = b46 := Nat.ne_of_lt (Nat.lt_of_lt_of_le B44.lt hb50)
      have g_b46 := Nat.le_trans hF.size hb50
      replace hV := hV.new hN48
      replace H := H.new hN48
      replace Bw := Bw.new hN48
      replace hW := hW.new hN48
      replace B5 := B5.new hN48
      replace B30 := B30.new hN48
      replace V37 := V37.new hN48
      replace B44 := B44.new hN48
      replace hF := hF.trNew hN48
      refine fx_storeS sz49 rfl rfl rfl (fr.ev rfl) (fr.ev rfl) (by simp [Value.oneCell']) B44 rfl rfl fun w51 hO52 hBq => ?_
      replace hV := hV.only hO52 (Apart.ne1 ap_P_b41)
      replace H := H.only hO52 (by show ¬ b6 = b41; omega) (Apart.ne1 ap_A_b41)
      replace Bw := Bw.only hO52 (by show ¬ b14 = b41; omega)
      replace hW := hW.only hO52 (Apart.ne1 ap_V_b41)
      replace B5 := B5.only hO52 (by show ¬ b1 = b41; omega)
      replace B30 := B30.only hO52 (by show ¬ b27 = b41; omega)
      replace V37 := V37.only hO52 (Apart.ne1 ap_A35_b41)
      replace B49 := B49.only hO52 (by show ¬ b46 = b41; omega)
      replace hF := hF.loc hO52 (.inr g_b41)
      replace B44 := hBq
      clear hBq
      refine fx_storeS sz26 rfl rfl rfl (fr.ev rfl) (fr.ev rfl) (msgE.all _) B49 (msgE.size _) (msgE.size _) fun w53 hO54 hBq => ?_
      replace hV := hV.only hO54 (Apart.ne1 ap_P_b46)
      replace H := H.only hO54 (by show ¬ b6 = b46; omega) (Apart.ne1 ap_A_b46)
      replace Bw := Bw.only hO54 (by show ¬ b14 = b46; omega)
      replace hW := hW.only hO54 (Apart.ne1 ap_V_b46)
      replace B5 := B5.only hO54 (by show ¬ b1 = b46; omega)
      replace B30 := B30.only hO54 (by show ¬ b27 = b46; omega)
      replace V37 := V37.only hO54 (Apart.ne1 ap_A35_b46)
      replace B44 := B44.only hO54 (by show ¬ b41 = b46; omega)
      replace hF := hF.loc hO54 (.inr g_b46)
      replace B49 := hBq
      clear hBq
      refine fx_val (v := .bool (decide (l ≠ []))) fr rfl rfl (by first | decide | simp) (x_assign rfl (fr.ev rfl)) ?_
      clear fr a; intro a fr
      refine wpList_nil ?_
      refine fx_next ?_
      refine wp_seq ?_
      refine wp_region_lit ?_  -- region 9
      refine fx_val (v := .agg (#[.int .i64 most, .slice A35 ((delL ((la.getD i act0).pick) l).length) cap36])) fr rfl rfl (by first | decide | simp) (x_loadS ag49 rfl (fr.ev rfl) rfl B44.range) ?_
      clear fr a; intro a fr
      refine fx_storeS sz49 rfl rfl rfl (fr.ev rfl) (fr.ev rfl) (by simp [Value.oneCell']) Bw rfl rfl fun w55 hO56 hBq => ?_
      replace hV := hV.only hO56 (Apart.ne1 ap_P_b14)
      replace H := H.only hO56 (by show ¬ b6 = b14; omega) (Apart.ne1 ap_A_b14)
      replace hW := hW.only hO56 (Apart.ne1 ap_V_b14)
      replace B5 := B5.only hO56 (by show ¬ b1 = b14; omega)
      replace B30 := B30.only hO56 (by show ¬ b27 = b14; omega)
      replace V37 := V37.only hO56 (Apart.ne1 ap_A35_b14)
      replace B44 := B44.only hO56 (by show ¬ b41 = b14; omega)
      replace B49 := B49.only hO56 (by show ¬ b46 = b14; omega)
      replace hF := hF.loc hO56 (.inr g_b14)
      replace Bw := hBq
      clear hBq
      refine wpList_nil ?_
      refine fx_next ?_
      refine wp_seq ?_
      refine wp_region_lit ?_  -- region 10
      refine fx_val (v := .pointer (some ⟨b6, 0, none⟩)) fr rfl rfl (by first | decide | simp) (x_move rfl (fr.ev rfl)) ?_
      clear fr a; intro a fr
      refine fx_val (v := .pointer (some ⟨b27, 21, none⟩)) fr rfl rfl (by first | decide | simp) (x_fieldAddr fo40_2 rfl (fr.ev rfl) rfl) ?_
      clear fr a; intro a fr
      refine fx_val (v := .int .i64 ((la.getD i act0).pick)) fr rfl rfl (by first | decide | simp) (x_load1 pl3 rfl (fr.ev rfl) (B30.cell 21 (act_pickA _))) ?_
      clear fr a; intro a fr
      refine fx_call fr rfl rfl (by first | decide | simp) (x_call (vs := [.pointer (some ⟨b6, 0, none⟩), .int .i64 ((la.getD i act0).pick)]) rfl rfl ⟨(fr.ev rfl), (fr.ev rfl), trivial⟩ Try.func16 nm16 rfl) (deliver_c ((la.getD i act0).pick) H (by omega) (by omega)) ?_
      clear fr a
      rintro v w61 ⟨rfl, A57, cap58, H59, hN62, mv60⟩ a fr
      have ap2_A57_P : Apart2 A57 P := moved_apart2 mv60 ap2_P_A.symm fun _ hg => hV.lt hg
      have ap2_A57_V : Apart2 A57 V := moved_apart2 mv60 ap2_A_V fun _ hg => hW.lt hg
      have ap_A57_b1 : Apart A57 b1 := moved_apart mv60 ap_A_b1 B5.lt
      have ap_A57_b27 : Apart A57 b27 := moved_apart mv60 ap_A_b27 B30.lt
      have ap2_A57_A35 : Apart2 A57 A35 := moved_apart2 mv60 ap2_A35_A.symm fun _ hg => V37.lt hg
      have ap_A57_b41 : Apart A57 b41 := moved_apart mv60 ap_A_b41 B44.lt
      have ap_A57_b46 : Apart A57 b46 := moved_apart mv60 ap_A_b46 B49.lt
      have ap_A57_b14 : Apart A57 b14 := moved_apart mv60 ap_A_b14 Bw.lt
      have gA_A57 := gA_moved hF mv60 gA_A
      replace hV := hV.only hN62 (fun g hg h => h.elim ((Apart.ne1 ap_P_b6) g hg) ((fun g h1 h2 => ap2_P_A g h1 h2) g hg))
      replace hW := hW.only hN62 (fun g hg h => h.elim ((Apart.ne1 ap_V_b6) g hg) ((fun g h1 h2 => ap2_A_V.symm g h1 h2) g hg))
      replace B5 := B5.only hN62 (fun h => h.elim (by show ¬ b1 = b6; omega) ap_A_b1)
      replace B30 := B30.only hN62 (fun h => h.elim (by show ¬ b27 = b6; omega) ap_A_b27)
      replace V37 := V37.only hN62 (fun g hg h => h.elim ((Apart.ne1 ap_A35_b6) g hg) ((fun g h1 h2 => ap2_A35_A g h1 h2) g hg))
      replace B44 := B44.only hN62 (fun h => h.elim (by show ¬ b41 = b6; omega) ap_A_b41)
      replace B49 := B49.only hN62 (fun h => h.elim (by show ¬ b46 = b6; omega) ap_A_b46)
      replace Bw := Bw.only hN62 (fun h => h.elim (by show ¬ b14 = b6; omega) ap_A_b14)
      replace hF := hF.loc2 hN62 (.inr g_b6) gA_A
      clear H
      refine fx_val (v := .tuple #[.agg (msgE.arr (delM ((la.getD i act0).pick) l)), .bool (decide (l ≠ []))]) fr rfl rfl (by first | decide | simp) (x_move rfl (fr.ev rfl)) ?_
      clear fr a; intro a fr
      refine fx_val (v := .agg (msgE.arr (delM ((la.getD i act0).pick) l))) fr rfl rfl (by first | decide | simp) (x_extract rfl (fr.ev rfl) rfl) ?_
      clear fr a; intro a fr
      refine fx_val (v := .bool (decide (l ≠ []))) fr rfl rfl (by first | decide | simp) (x_extract rfl (fr.ev rfl) rfl) ?_
      clear fr a; intro a fr
      refine fx_new fr rfl rfl (by first | decide | simp) (x_alloc (z := .agg (#[.int .i64 0, .int .i64 0, .int .i64 0, .int .u32 0, .int .u8 0, .int .u8 0, .int .u8 0, .int .u8 0, .int .u8 0, .int .u8 0, .int .u8 0, .int .u8 0, .int .u8 0, .int .u8 0, .int .u8 0, .int .u8 0, .int .u8 0, .int .u8 0, .int .u8 0, .int .u8 0])) (cs := msgE.arr msg0) rfl (by kernel_rfl) rfl) ?_
      clear fr a
      intro b63 w64 hN65 B66 hb67 a fr
      have ap_P_b63 : Apart P b63 := hV.apart hb67
      have ap_V_b63 : Apart V b63 := hW.apart hb67
      have ne_b1_b63 : ¬ b1 = b63 := Nat.ne_of_lt (Nat.lt_of_lt_of_le B5.lt hb67)
      have ne_b27_b63 : ¬ b27 = b63 := Nat.ne_of_lt (Nat.lt_of_lt_of_le B30.lt hb67)
      have ap_A35_b63 : Apart A35 b63 := V37.apart hb67
      have ne_b41_b63 : ¬ b41 = b63 := Nat.ne_of_lt (Nat.lt_of_lt_of_le B44.lt hb67)
      have ne_b46_b63 : ¬ b46 = b63 := Nat.ne_of_lt (Nat.lt_of_lt_of_le B49.lt hb67)
      have ne_b14_b63 : ¬ b14 = b63 := Nat.ne_of_lt (Nat.lt_of_lt_of_le Bw.lt hb67)
      have ne_b6_b63 : ¬ b6 = b63 := Nat.ne_of_lt (Nat.lt_of_lt_of_le H59.ltb hb67)
      have ap_A57_b63 : Apart A57 b63 := H59.apart hb67
      have g_b63 := Nat.le_trans hF.size hb67
      replace hV := hV.new hN65
      replace hW := hW.new hN65
      replace B5 := B5.new hN65
      replace B30 := B30.new hN65
      replace V37 := V37.new hN65
      replace B44 := B44.new hN65
      replace B49 := B49.new hN65
      replace Bw := Bw.new hN65
      replace H59 := H59.new hN65
      replace hF := hF.trNew hN65
      refine fx_storeS sz26 rfl rfl rfl (fr.ev rfl) (fr.ev rfl) (msgE.all _) B66 (msgE.size _) (msgE.size _) fun w68 hO69 hBq => ?_
      replace hV := hV.only hO69 (Apart.ne1 ap_P_b63)
      replace hW := hW.only hO69 (Apart.ne1 ap_V_b63)
      replace B5 := B5.only hO69 (by show ¬ b1 = b63; omega)
      replace B30 := B30.only hO69 (by show ¬ b27 = b63; omega)
      replace V37 := V37.only hO69 (Apart.ne1 ap_A35_b63)
      replace B44 := B44.only hO69 (by show ¬ b41 = b63; omega)
      replace B49 := B49.only hO69 (by show ¬ b46 = b63; omega)
      replace Bw := Bw.only hO69 (by show ¬ b14 = b63; omega)
      replace H59 := H59.only hO69 (by show ¬ b6 = b63; omega) (Apart.ne1 ap_A57_b63)
      replace hF := hF.loc hO69 (.inr g_b63)
      replace B66 := hBq
      clear hBq
      refine fx_val (v := .bool (decide (l ≠ []))) fr rfl rfl (by first | decide | simp) (x_assign rfl (fr.ev rfl)) ?_
      clear fr a; intro a fr
      refine wpList_nil ?_
      refine fx_next ?_
      refine wp_seq ?_
      refine wp_seq ?_
      refine wp_region_lit ?_  -- region 11
      refine fx_val (v := .agg (msgE.arr (delM ((la.getD i act0).pick) l))) fr rfl rfl (by first | decide | simp) (x_loadE (E := msgE) ag26 rfl rfl (fr.ev rfl) (B66.rangeE msgE)) ?_
      clear fr a; intro a fr
      refine fx_val (v := .agg (msgE.arr (delM ((la.getD i act0).pick) l))) fr rfl rfl (by first | decide | simp) (x_loadE (E := msgE) ag26 rfl rfl (fr.ev rfl) (B49.rangeE msgE)) ?_
      clear fr a; intro a fr
      refine fx_val (v := .bool false) fr rfl rfl (by first | decide | simp) (x_neE msgER rfl rfl (fr.ev rfl) (fr.ev rfl) (by simp)) ?_
      clear fr a; intro a fr
      refine fx_val (v := .bool false) fr rfl rfl (by first | decide | simp) (x_move rfl (fr.ev rfl)) ?_
      clear fr a; intro a fr
      refine fx_val (v := .bool (decide (l ≠ []))) fr (fr.want rfl rfl rfl) rfl (by first | decide | simp) (x_move rfl (fr.ev rfl)) ?_
      clear fr a; intro a fr
      refine fx_val (v := .bool (decide (l ≠ []))) fr (fr.want rfl rfl rfl) rfl (by first | decide | simp) (x_move rfl (fr.ev rfl)) ?_
      clear fr a; intro a fr
      refine fx_val (v := .bool false) fr (fr.want rfl rfl rfl) rfl (by first | decide | simp) (x_bneq Try.underlying4 rfl (fr.ev rfl) (fr.ev rfl) (by simp)) ?_
      clear fr a; intro a fr
      refine fx_val (v := .bool false) fr rfl rfl (by first | decide | simp) (x_pick_f rfl (fr.ev rfl) (fr.ev rfl)) ?_
      clear fr a; intro a fr
      refine wpList_nil ?_
      refine fx_next ?_
      refine fx_cond_f fr rfl ?_
      refine wp_skip ?_
      refine fx_next ?_
      refine wp_exit ?_
      refine fx_xt ?_
      refine fx_xx ?_
      refine fx_next ?_
      refine wp_region_lit ?_  -- region 5
      refine fx_val (v := .int .i64 ((i : Nat) : Int)) fr rfl rfl (by first | decide | simp) (x_move rfl (fr.ev rfl)) ?_
      clear fr a; intro a fr
      refine fx_val (v := .int .i64 ((i + 1 : Nat) : Int)) fr rfl rfl (by first | decide | simp) (x_add rfl (fr.ev rfl) rfl (i64w (r := ((i + 1 : Nat) : Int)) (by omega) (by omega))) ?_
      clear fr a; intro a fr
      refine fx_val (v := .int .i64 ((i + 1 : Nat) : Int)) fr rfl rfl (by first | decide | simp) (x_assign rfl (fr.ev rfl)) ?_
      clear fr a; intro a fr
      refine wpList_nil ?_
      refine fx_next ?_
      exact ⟨_, by omega, A57, cap58, (delL ((la.getD i act0).pick) l), A35, cap36, (i + 1), rfl, fr.sub ⟨rfl, rfl, rfl, rfl, rfl, rfl, rfl, rfl, trivial⟩, hF, hV, H59, Bw, V37, B5, by omega, (by have := delL_le (la.getD i act0).pick l; omega), ap2_A57_P.symm, ap_A57_b14, ap_A35_b6, ap2_A57_A35, ap_A57_b1, ap_A35_b14, ap_A35_b1, gA_A57, gA_A35⟩
    · skip
      have hc34 := of_decide_eq_false hc34
      refine wp_skip ?_
      refine fx_next ?_
      refine wp_seq ?_
      refine wp_region_lit ?_  -- region 13
      refine fx_val (v := .agg (#[.int .i64 most, .slice V l.length vc])) fr rfl rfl (by first | decide | simp) (x_loadS ag49 rfl (fr.ev rfl) rfl Bw.range) ?_
      clear fr a; intro a fr
      refine fx_val (v := .pointer (some ⟨b27, 1, none⟩)) fr rfl rfl (by first | decide | simp) (x_fieldAddr fo40_1 rfl (fr.ev rfl) rfl) ?_
      clear fr a; intro a fr
      refine fx_val (v := .agg (msgE.arr ((la.getD i act0).msg))) fr rfl rfl (by first | decide | simp) (x_loadE (E := msgE) ag26 rfl rfl (fr.ev rfl) (B30.part (act_msgA _))) ?_
      clear fr a; intro a fr
      refine fx_call fr rfl rfl (by first | decide | simp) (x_call (vs := [.agg (#[.int .i64 most, .slice V l.length vc]), .agg (msgE.arr ((la.getD i act0).msg))]) rfl rfl ⟨(fr.ev rfl), (fr.ev rfl), trivial⟩ Try.func23 nm23 rfl) (rsend_c ((la.getD i act0).msg) hW (by omega)) ?_
      clear fr a
      rintro v w74 ⟨A70, cap71, rfl, V72, mv73, hN75⟩ a fr
      have ap_A70_b6 : Apart A70 b6 := moved_apart mv73 ap_V_b6 H.ltb
      have ap2_A70_A : Apart2 A70 A := moved_apart2 mv73 ap2_A_V.symm fun _ hg => H.lt hg
      have ap_A70_b14 : Apart A70 b14 := moved_apart mv73 ap_V_b14 Bw.lt
      have ap_A70_b1 : Apart A70 b1 := moved_apart mv73 ap_V_b1 B5.lt
      have ap_A70_b27 : Apart A70 b27 := moved_apart mv73 ap_V_b27 B30.lt
      have gA_A70 := gA_moved hF mv73 gA_V
      replace hV := hV.new hN75
      replace H := H.new hN75
      replace Bw := Bw.new hN75
      replace hW := hW.new hN75
      replace B5 := B5.new hN75
      replace B30 := B30.new hN75
      replace hF := hF.trNew hN75
      refine fx_val (v := .tuple #[.agg (#[.int .i64 most, .slice A70 ((sendL most l ((la.getD i act0).msg)).length) cap71]), .int .i64 (sendE most l ((la.getD i act0).msg))]) fr rfl rfl (by first | decide | simp) (x_move rfl (fr.ev rfl)) ?_
      clear fr a; intro a fr
      refine fx_val (v := .agg (#[.int .i64 most, .slice A70 ((sendL most l ((la.getD i act0).msg)).length) cap71])) fr rfl rfl (by first | decide | simp) (x_extract rfl (fr.ev rfl) rfl) ?_
      clear fr a; intro a fr
      refine fx_val (v := .int .i64 (sendE most l ((la.getD i act0).msg))) fr rfl rfl (by first | decide | simp) (x_extract rfl (fr.ev rfl) rfl) ?_
      clear fr a; intro a fr
      refine fx_new fr rfl rfl (by first | decide | simp) (x_alloc (z := .agg (#[.int .i64 0, .slice none 0 0])) (cs := #[.int .i64 0, .slice none 0 0]) rfl (by kernel_rfl) rfl) ?_
      clear fr a
      intro b76 w77 hN78 B79 hb80 a fr
      have ap_P_b76 : Apart P b76 := hV.apart hb80
      have ne_b6_b76 : ¬ b6 = b76 := Nat.ne_of_lt (Nat.lt_of_lt_of_le H.ltb hb80)
      have ap_A_b76 : Apart A b76 := H.apart hb80
      have ne_b14_b76 : ¬ b14 = b76 := Nat.ne_of_lt (Nat.lt_of_lt_of_le Bw.lt hb80)
      have ap_V_b76 : Apart V b76 := hW.apart hb80
      have ne_b1_b76 : ¬ b1 = b76 := Nat.ne_of_lt (Nat.lt_of_lt_of_le B5.lt hb80)
      have ne_b27_b76 : ¬ b27 = b76 := Nat.ne_of_lt (Nat.lt_of_lt_of_le B30.lt hb80)
      have ap_A70_b76 : Apart A70 b76 := V72.apart hb80
      have g_b76 := Nat.le_trans hF.size hb80
      replace hV := hV.new hN78
      replace H := H.new hN78
      replace Bw := Bw.new hN78
      replace hW := hW.new hN78
      replace B5 := B5.new hN78
      replace B30 := B30.new hN78
      replace V72 := V72.new hN78
      replace hF := hF.trNew hN78
      refine fx_storeS sz49 rfl rfl rfl (fr.ev rfl) (fr.ev rfl) (by simp [Value.oneCell']) B79 rfl rfl fun w81 hO82 hBq => ?_
      replace hV := hV.only hO82 (Apart.ne1 ap_P_b76)
      replace H := H.only hO82 (by show ¬ b6 = b76; omega) (Apart.ne1 ap_A_b76)
      replace Bw := Bw.only hO82 (by show ¬ b14 = b76; omega)
      replace hW := hW.only hO82 (Apart.ne1 ap_V_b76)
      replace B5 := B5.only hO82 (by show ¬ b1 = b76; omega)
      replace B30 := B30.only hO82 (by show ¬ b27 = b76; omega)
      replace V72 := V72.only hO82 (Apart.ne1 ap_A70_b76)
      replace hF := hF.loc hO82 (.inr g_b76)
      replace B79 := hBq
      clear hBq
      refine fx_val (v := .int .i64 (sendE most l ((la.getD i act0).msg))) fr rfl rfl (by first | decide | simp) (x_assign rfl (fr.ev rfl)) ?_
      clear fr a; intro a fr
      refine wpList_nil ?_
      refine fx_next ?_
      refine wp_seq ?_
      refine wp_region_lit ?_  -- region 14
      refine fx_val (v := .agg (#[.int .i64 most, .slice A70 ((sendL most l ((la.getD i act0).msg)).length) cap71])) fr rfl rfl (by first | decide | simp) (x_loadS ag49 rfl (fr.ev rfl) rfl B79.range) ?_
      clear fr a; intro a fr
      refine fx_storeS sz49 rfl rfl rfl (fr.ev rfl) (fr.ev rfl) (by simp [Value.oneCell']) Bw rfl rfl fun w83 hO84 hBq => ?_
      replace hV := hV.only hO84 (Apart.ne1 ap_P_b14)
      replace H := H.only hO84 (by show ¬ b6 = b14; omega) (Apart.ne1 ap_A_b14)
      replace hW := hW.only hO84 (Apart.ne1 ap_V_b14)
      replace B5 := B5.only hO84 (by show ¬ b1 = b14; omega)
      replace B30 := B30.only hO84 (by show ¬ b27 = b14; omega)
      replace V72 := V72.only hO84 (Apart.ne1 ap_A70_b14)
      replace B79 := B79.only hO84 (by show ¬ b76 = b14; omega)
      replace hF := hF.loc hO84 (.inr g_b14)
      replace Bw := hBq
      clear hBq
      refine wpList_nil ?_
      refine fx_next ?_
      refine wp_seq ?_
      refine wp_region_lit ?_  -- region 15
      refine fx_val (v := .pointer (some ⟨b6, 0, none⟩)) fr rfl rfl (by first | decide | simp) (x_move rfl (fr.ev rfl)) ?_
      clear fr a; intro a fr
      refine fx_val (v := .pointer (some ⟨b27, 1, none⟩)) fr rfl rfl (by first | decide | simp) (x_fieldAddr fo40_1 rfl (fr.ev rfl) rfl) ?_
      clear fr a; intro a fr
      refine fx_val (v := .agg (msgE.arr ((la.getD i act0).msg))) fr rfl rfl (by first | decide | simp) (x_loadE (E := msgE) ag26 rfl rfl (fr.ev rfl) (B30.part (act_msgA _))) ?_
      clear fr a; intro a fr
      refine fx_call fr rfl rfl (by first | decide | simp) (x_call (vs := [.pointer (some ⟨b6, 0, none⟩), .agg (msgE.arr ((la.getD i act0).msg))]) rfl rfl ⟨(fr.ev rfl), (fr.ev rfl), trivial⟩ Try.func15 nm15 rfl) (send_c ((la.getD i act0).msg) H (by omega) (by omega)) ?_
      clear fr a
      rintro v w89 ⟨rfl, A85, cap86, H87, hN90, mv88⟩ a fr
      have ap2_A85_P : Apart2 A85 P := moved_apart2 mv88 ap2_P_A.symm fun _ hg => hV.lt hg
      have ap2_A85_V : Apart2 A85 V := moved_apart2 mv88 ap2_A_V fun _ hg => hW.lt hg
      have ap_A85_b1 : Apart A85 b1 := moved_apart mv88 ap_A_b1 B5.lt
      have ap_A85_b27 : Apart A85 b27 := moved_apart mv88 ap_A_b27 B30.lt
      have ap2_A85_A70 : Apart2 A85 A70 := moved_apart2 mv88 ap2_A70_A.symm fun _ hg => V72.lt hg
      have ap_A85_b76 : Apart A85 b76 := moved_apart mv88 ap_A_b76 B79.lt
      have ap_A85_b14 : Apart A85 b14 := moved_apart mv88 ap_A_b14 Bw.lt
      have gA_A85 := gA_moved hF mv88 gA_A
      replace hV := hV.only hN90 (fun g hg h => h.elim ((Apart.ne1 ap_P_b6) g hg) ((fun g h1 h2 => ap2_P_A g h1 h2) g hg))
      replace hW := hW.only hN90 (fun g hg h => h.elim ((Apart.ne1 ap_V_b6) g hg) ((fun g h1 h2 => ap2_A_V.symm g h1 h2) g hg))
      replace B5 := B5.only hN90 (fun h => h.elim (by show ¬ b1 = b6; omega) ap_A_b1)
      replace B30 := B30.only hN90 (fun h => h.elim (by show ¬ b27 = b6; omega) ap_A_b27)
      replace V72 := V72.only hN90 (fun g hg h => h.elim ((Apart.ne1 ap_A70_b6) g hg) ((fun g h1 h2 => ap2_A70_A g h1 h2) g hg))
      replace B79 := B79.only hN90 (fun h => h.elim (by show ¬ b76 = b6; omega) ap_A_b76)
      replace Bw := Bw.only hN90 (fun h => h.elim (by show ¬ b14 = b6; omega) ap_A_b14)
      replace hF := hF.loc2 hN90 (.inr g_b6) gA_A
      clear H
      refine fx_call fr rfl rfl (by first | decide | simp) (x_call (vs := [.int .i64 (sendE most l ((la.getD i act0).msg))]) rfl rfl ⟨(fr.ev rfl), trivial⟩ Try.func10 nm10 rfl) (num_c (sendE most l ((la.getD i act0).msg)) _) ?_
      clear fr a
      rintro v _ ⟨rfl, rfl⟩ a fr
      refine fx_val (v := .int .i64 (sendE most l ((la.getD i act0).msg))) fr rfl rfl (by first | decide | simp) (x_move rfl (fr.ev rfl)) ?_
      clear fr a; intro a fr
      refine fx_val (v := .bool false) fr rfl rfl (by first | decide | simp) (x_neq rfl (fr.ev rfl) (fr.ev rfl) (by simp)) ?_
      clear fr a; intro a fr
      refine wpList_nil ?_
      refine fx_next ?_
      refine fx_cond_f fr rfl ?_
      refine wp_skip ?_
      refine fx_blk ?_
      refine fx_next ?_
      refine wp_region_lit ?_  -- region 5
      refine fx_val (v := .int .i64 ((i : Nat) : Int)) fr rfl rfl (by first | decide | simp) (x_move rfl (fr.ev rfl)) ?_
      clear fr a; intro a fr
      refine fx_val (v := .int .i64 ((i + 1 : Nat) : Int)) fr rfl rfl (by first | decide | simp) (x_add rfl (fr.ev rfl) rfl (i64w (r := ((i + 1 : Nat) : Int)) (by omega) (by omega))) ?_
      clear fr a; intro a fr
      refine fx_val (v := .int .i64 ((i + 1 : Nat) : Int)) fr rfl rfl (by first | decide | simp) (x_assign rfl (fr.ev rfl)) ?_
      clear fr a; intro a fr
      refine wpList_nil ?_
      refine fx_next ?_
      exact ⟨_, by omega, A85, cap86, (sendL most l ((la.getD i act0).msg)), A70, cap71, (i + 1), rfl, fr.sub ⟨rfl, rfl, rfl, rfl, rfl, rfl, rfl, rfl, trivial⟩, hF, hV, H87, Bw, V72, B5, by omega, (by have := sendL_le most l (la.getD i act0).msg; omega), ap2_A85_P.symm, ap_A85_b14, ap_A70_b6, ap2_A85_A70, ap_A85_b1, ap_A70_b14, ap_A70_b1, gA_A85, gA_A70⟩
  · skip
    have hc23 := of_decide_eq_false hc23
    refine wp_exit ?_
    refine fx_xt ?_
    refine fx_xt ?_
    refine fx_xx ?_
    refine fx_next ?_
    refine wp_seq ?_
    refine fx_heldT (n := 7) (k := 7) (fun w => View actE w P cp la ∧ NetAt w b6 A cap most l ∧ Blk w b14 49 #[.int .i64 most, .slice V l.length vc] ∧ View msgE w V vc l ∧ True) (by kernel_rfl) (by kernel_rfl) rfl ?_  -- region 17
    intro w93 hN94
    replace hV := hV.new hN94
    replace H := H.new hN94
    replace Bw := Bw.new hN94
    replace hW := hW.new hN94
    replace B5 := B5.new hN94
    replace hF := hF.trNew hN94
    refine fx_take (i := 0) (v := .pointer (some ⟨b6, 0, none⟩)) fr rfl (by kernel_rfl) rfl rfl (by first | decide | simp) (fun _ _ _ h => h) (fun _ ⟨hV, H, Bw, hW, _⟩ => x_move rfl (fr.ev rfl)) ⟨hV, H, Bw, hW, trivial⟩ ?_
    clear fr a; intro a fr
    refine fx_take (i := 1) (v := .agg (#[.int .i64 most, .slice V l.length vc])) fr rfl (by kernel_rfl) rfl rfl (by first | decide | simp) (fun _ _ _ h => h) (fun _ ⟨hV, H, Bw, hW, _⟩ => x_loadS ag49 rfl (fr.ev rfl) rfl Bw.range) ⟨hV, H, Bw, hW, trivial⟩ ?_
    clear fr a; intro a fr
    refine fx_take (i := 2) (v := .int .i64 0) fr rfl (by kernel_rfl) rfl rfl (by first | decide | simp) (fun _ _ _ h => h) (fun _ ⟨hV, H, Bw, hW, _⟩ => x_move rfl (fr.ev rfl)) ⟨hV, H, Bw, hW, trivial⟩ ?_
    clear fr a; intro a fr
    refine fx_one (i := 3) (by kernel_rfl) (fx_op rfl ?_)
    refine fx_call fr rfl rfl (by first | decide | simp) (x_call (vs := [.int .i64 0]) rfl rfl ⟨(fr.ev rfl), trivial⟩ Try.func10 nm10 rfl) (num_c 0 _) ?_
    clear fr a
    rintro v _ ⟨rfl, rfl⟩ a fr
    refine wpList_nil ?_
    refine ⟨⟨hV, H, Bw, hW, trivial⟩, ?_⟩
    refine fx_take (i := 4) (v := .bool true) fr rfl (by kernel_rfl) rfl rfl (by first | decide | simp) (fun _ _ _ h => h) (fun _ ⟨hV, H, Bw, hW, _⟩ => x_eql rfl (fr.ev rfl) rfl rfl) ⟨hV, H, Bw, hW, trivial⟩ ?_
    clear fr a; intro a fr
    refine fx_take (i := 5) (v := .pointer (some ⟨b6, 0, none⟩)) fr rfl (by kernel_rfl) rfl rfl (by first | decide | simp) (fun _ _ _ h => h) (fun _ ⟨hV, H, Bw, hW, _⟩ => x_assign rfl (fr.ev rfl)) ⟨hV, H, Bw, hW, trivial⟩ ?_
    clear fr a; intro a fr
    refine fx_one (i := 6) (by kernel_rfl) (fx_op rfl ?_)
    refine fx_storeS sz49 rfl rfl rfl (fr.ev rfl) (fr.ev rfl) (by simp [Value.oneCell']) B5 rfl rfl fun w97 hO98 hBq => ?_
    replace hV := hV.only hO98 (Apart.ne1 ap_P_b1)
    replace H := H.only hO98 (by show ¬ b6 = b1; omega) (Apart.ne1 ap_A_b1)
    replace Bw := Bw.only hO98 (by show ¬ b14 = b1; omega)
    replace hW := hW.only hO98 (Apart.ne1 ap_V_b1)
    replace hF := hF.loc hO98 (.inr g_b1)
    replace B5 := hBq
    clear hBq
    refine wpList_nil ?_
    refine ⟨⟨hV, H, Bw, hW, trivial⟩, ?_⟩
    refine fx_hdone (by kernel_rfl) ?_
    refine fx_tail ?_
    refine fx_val (v := .bool true) fr rfl rfl (by first | decide | simp) (x_assign rfl (fr.ev rfl)) ?_
    clear fr a; intro a fr
    refine wpList_nil ?_
    refine fx_next ?_
    refine wp_ret ?_
    refine fx_ret fr [.tmp 4, .cell 5 49, .tmp 6] [.pointer (some ⟨b6, 0, none⟩), .agg (#[.int .i64 most, .slice V l.length vc]), .bool true] rfl ⟨rfl, ⟨_, rfl, x_loadV ag49 rfl B5.range⟩, rfl, trivial⟩ rfl ?_
    exact ⟨_, rfl, b6, _, _, l, _, _, rfl, H, hW, by omega, (g_b6), (fun g hg => (gA_A g hg).resolve_left id), (fun g hg => (gA_V g hg).resolve_left id), ap_V_b6, ap2_A_V, hF⟩
end Go.Proofs.Ytdpkeabmfhnfiaa
