/-
  LinesCopies: a line put. Printed by gen_j.py.
-/
import Derived.Test.YtdjgfkjcpalihaaLinI
import Derived.Test.YtdjgfkjcpalihaaFXpanic
namespace Go.Proofs.Ytdjgfkjcpalihaa
open Go.RowKit

set_option maxRecDepth 100000 in
set_option maxHeartbeats 4000000 in
theorem copies_put {w : World} {P : Option Addr} {cp : Nat} {la : List LAct} (hV : View actE w P cp la) (q : LAct) (hq0 : ¬ (q.what ≠ 0)) (n : Nat) (ways : Int) (hr : rightB ((n : Nat) : Int) ways = true) : Calls Try.prog 9 #[.int .i64 ((n : Nat) : Int), .int .i64 ways, .slice P la.length cp, .agg (actE.arr q)] w (Ret fun v w' => v = .bool true ∧ New w w') := by
  have hVl := hV.len
  unfold maxLen at hVl
  have hrb := right_bd hr
  have hF := Only.refl (fun _ => False) w
  refine fx_enterM Try.func9 rfl (N := (156, [])) (T := [(0, .int .i64 ((n : Nat) : Int)), (1, .int .i64 ways), (2, .slice P la.length cp), (3, .agg (actE.arr q))]) rfl (show 4 ≤ 156 by decide) ⟨rfl, rfl, rfl, rfl, trivial⟩ fun a fr => ?_
  refine wp_seq ?_
  refine wp_region_lit ?_  -- region 0
  refine fx_new fr rfl rfl (by first | decide | simp) (x_box (cs := actE.arr q) rfl (fr.ev rfl) rfl) ?_
  clear fr a
  intro b1 w2 hN3 B4 hb5 a fr
  have ap_P_b1 : Apart P b1 := hV.apart hb5
  have g_b1 := Nat.le_trans hF.size hb5
  replace hV := hV.new hN3
  replace hF := hF.trNew hN3
  refine fx_val (v := .bool false) fr rfl rfl (by first | decide | simp) (x_assign rfl rfl) ?_
  clear fr a; intro a fr
  refine wpList_nil ?_
  refine fx_next ?_
  refine wp_seq ?_
  refine wp_seq ?_
  refine wp_region_lit ?_  -- region 1
  refine fx_val (v := .int .i64 ((n : Nat) : Int)) fr rfl rfl (by first | decide | simp) (x_move rfl (fr.ev rfl)) ?_
  clear fr a; intro a fr
  refine fx_val (v := .int .i64 ways) fr rfl rfl (by first | decide | simp) (x_move rfl (fr.ev rfl)) ?_
  clear fr a; intro a fr
  refine fx_call fr rfl rfl (by first | decide | simp) (x_call (vs := [.int .i64 ((n : Nat) : Int), .int .i64 ways]) rfl rfl ⟨(fr.ev rfl), (fr.ev rfl), trivial⟩ Try.func10 nm10 rfl) (right_c ((n : Nat) : Int) ways _) ?_
  clear fr a
  rintro v w6 ⟨rfl, hN7⟩ a fr
  replace hV := hV.new hN7
  replace B4 := B4.new hN7
  replace hF := hF.trNew hN7
  rw [hr] at fr
  refine fx_val (v := .bool false) fr rfl rfl (by first | decide | simp) (x_not rfl (fr.ev rfl) rfl) ?_
  clear fr a; intro a fr
  refine fx_val (v := .bool false) fr rfl rfl (by first | decide | simp) (x_move rfl (fr.ev rfl)) ?_
  clear fr a; intro a fr
  refine fx_val (v := .slice P la.length cp) fr (fr.want rfl rfl rfl) rfl (by first | decide | simp) (x_move rfl (fr.ev rfl)) ?_
  clear fr a; intro a fr
  refine fx_val (v := .int .i64 ((la.length : Nat) : Int)) fr (fr.want rfl rfl rfl) rfl (by first | decide | simp) (x_len Try.underlying22 rfl (fr.ev rfl)) ?_
  clear fr a; intro a fr
  refine fx_val (v := .bool (decide (100 < ((la.length : Nat) : Int)))) fr (fr.want rfl rfl rfl) rfl (by first | decide | simp) (x_gtr rfl (fr.ev rfl) rfl rfl) ?_
  clear fr a; intro a fr
  refine fx_val (v := .bool (decide (100 < ((la.length : Nat) : Int)))) fr rfl rfl (by first | decide | simp) (x_pick_f rfl (fr.ev rfl) (fr.ev rfl)) ?_
  clear fr a; intro a fr
  refine wpList_nil ?_
  refine fx_next ?_
  refine fx_cond fr rfl (fun hc8 => ?_) (fun hc8 => ?_)
  · skip
    have hc8 := of_decide_eq_true hc8
    refine wp_seq ?_
    refine wp_region_lit ?_  -- region 2
    refine fx_call fr rfl rfl (by first | decide | simp) (x_call (vs := []) rfl rfl trivial Try.func11 nm11 rfl) (works_c _) ?_
    clear fr a
    rintro v w9 ⟨rfl, hN10⟩ a fr
    replace hV := hV.new hN10
    replace B4 := B4.new hN10
    replace hF := hF.trNew hN10
    refine fx_val (v := .bool true) fr rfl rfl (by first | decide | simp) (x_assign rfl (fr.ev rfl)) ?_
    clear fr a; intro a fr
    refine wpList_nil ?_
    refine fx_next ?_
    refine wp_ret ?_
    refine fx_rt ?_
    refine fx_retM0 fr [.tmp 8] [.bool true] rfl ⟨rfl, trivial⟩ rfl ?_
    exact ⟨_, rfl, rfl, hF⟩
  · skip
    have hc8 := of_decide_eq_false hc8
    refine wp_skip ?_
    refine fx_next ?_
    refine wp_seq ?_
    refine wp_region_lit ?_  -- region 3
    refine fx_val (v := .int .i64 ((n : Nat) : Int)) fr rfl rfl (by first | decide | simp) (x_move rfl (fr.ev rfl)) ?_
    clear fr a; intro a fr
    refine fx_val (v := .int .i64 ways) fr rfl rfl (by first | decide | simp) (x_move rfl (fr.ev rfl)) ?_
    clear fr a; intro a fr
    refine fx_val (v := .slice P la.length cp) fr rfl rfl (by first | decide | simp) (x_move rfl (fr.ev rfl)) ?_
    clear fr a; intro a fr
    refine fx_call fr rfl rfl (by first | decide | simp) (x_call (vs := [.int .i64 ((n : Nat) : Int), .int .i64 ways, .slice P la.length cp]) rfl rfl ⟨(fr.ev rfl), (fr.ev rfl), (fr.ev rfl), trivial⟩ Try.func12 nm12 rfl) (played_c (hV) hr (by omega)) ?_
    clear fr a
    rintro v w22 ⟨b11, Fp12, L13, V14, vc15, rfl, H16, hW17, hl18, hf19, hV20, q21, hN23⟩ a fr
    have ap2_P_Fp12 : ∀ k, inA P k → Fp12 k → False := symP (new_apart2P hf19 fun _ hg => hV.lt hg)
    have ap_Fp12_b1 : ¬ Fp12 b1 := new_apartP hf19 B4.lt
    have gA_Fp12 := gA_newP hF hf19
    have ap2_P_V14 : Apart2 P V14 := (new_apart2 hV20 fun _ hg => hV.lt hg).symm
    have ap_V14_b1 : Apart V14 b1 := new_apart hV20 B4.lt
    have gA_V14 := gA_new hF hV20
    replace hV := hV.new hN23
    replace B4 := B4.new hN23
    replace hF := hF.trNew hN23
    have ap2_Fp12_V14 := q21
    obtain ⟨hq1, hq2, hq3, hq4⟩ := H16.bd
    refine fx_val (v := .tuple #[.pointer (some ⟨b11, 0, none⟩), .agg (#[.int .i64 ((n : Nat) : Int), .int .i64 ways, .slice V14 L13.length vc15]), .bool true]) fr rfl rfl (by first | decide | simp) (x_move rfl (fr.ev rfl)) ?_
    clear fr a; intro a fr
    refine fx_val (v := .pointer (some ⟨b11, 0, none⟩)) fr rfl rfl (by first | decide | simp) (x_extract rfl (fr.ev rfl) rfl) ?_
    clear fr a; intro a fr
    refine fx_val (v := .agg (#[.int .i64 ((n : Nat) : Int), .int .i64 ways, .slice V14 L13.length vc15])) fr rfl rfl (by first | decide | simp) (x_extract rfl (fr.ev rfl) rfl) ?_
    clear fr a; intro a fr
    refine fx_val (v := .bool true) fr rfl rfl (by first | decide | simp) (x_extract rfl (fr.ev rfl) rfl) ?_
    clear fr a; intro a fr
    refine fx_new fr rfl rfl (by first | decide | simp) (x_alloc (z := .agg (#[.int .i64 0, .int .i64 0, .slice none 0 0])) (cs := #[.int .i64 0, .int .i64 0, .slice none 0 0]) rfl (by kernel_rfl) rfl) ?_
    clear fr a
    intro b24 w25 hN26 B27 hb28 a fr
    have ap_P_b24 : Apart P b24 := hV.apart hb28
    have ne_b1_b24 : NE b1 b24 := NE.mk (Nat.lt_of_lt_of_le B4.lt hb28)
    have ap_Fp12_b24 : ¬ Fp12 b24 := H16.apart hb28
    have ap_V14_b24 : Apart V14 b24 := hW17.apart hb28
    have g_b24 := Nat.le_trans hF.size hb28
    replace hV := hV.new hN26
    replace B4 := B4.new hN26
    replace H16 := H16.new hN26
    replace hW17 := hW17.new hN26
    replace hF := hF.trNew hN26
    refine fx_val (v := .pointer (some ⟨b11, 0, none⟩)) fr rfl rfl (by first | decide | simp) (x_assign rfl (fr.ev rfl)) ?_
    clear fr a; intro a fr
    refine fx_storeS sz28 rfl rfl rfl (fr.ev rfl) (fr.ev rfl) (by simp [Value.oneCell']) B27 rfl rfl fun w29 hO30 hBq => ?_
    replace hV := hV.only hO30 (Apart.ne1 ap_P_b24)
    replace B4 := B4.only hO30 (by first | exact ne_b1_b24 | exact ne_b24_b1.symm | (show ¬ b1 = b24; omega))
    replace H16 := H16.only hO30 (ne1P ap_Fp12_b24)
    replace hW17 := hW17.only hO30 (Apart.ne1 ap_V14_b24)
    replace hF := hF.loc hO30 (.inr g_b24)
    replace B27 := hBq
    clear hBq
    refine fx_val (v := .bool true) fr rfl rfl (by first | decide | simp) (x_assign rfl (fr.ev rfl)) ?_
    clear fr a; intro a fr
    refine wpList_nil ?_
    refine fx_next ?_
    refine wp_seq ?_
    obtain ⟨hq1, hq2, hq3, hq4⟩ := hrb
    have hxs := allL_len hq1 L13
    have hr2 := right_wider hr
    have hw8 := wider_bd ⟨hq3, hq4⟩
    refine wp_region_lit ?_  -- region 4
    refine fx_val (v := .pointer (some ⟨b11, 0, none⟩)) fr rfl rfl (by first | decide | simp) (x_move rfl (fr.ev rfl)) ?_
    clear fr a; intro a fr
    refine fx_call fr rfl rfl (by first | decide | simp) (x_call (vs := [.pointer (some ⟨b11, 0, none⟩)]) rfl rfl ⟨(fr.ev rfl), trivial⟩ Try.func26 nm26 rfl) (copy_c H16) ?_
    clear fr a
    rintro v w35 ⟨b31, Fp32, rfl, H33, hb34, hN36⟩ a fr
    have ap2_P_Fp32 : ∀ k, inA P k → Fp32 k → False := symP (new_apart2P hb34 fun _ hg => hV.lt hg)
    have ap_Fp32_b1 : ¬ Fp32 b1 := new_apartP hb34 B4.lt
    have ap2_Fp12_Fp32 : ∀ k, Fp12 k → Fp32 k → False := symP (new_apart2P hb34 fun _ hg => H16.lt hg)
    have ap2_V14_Fp32 : ∀ k, inA V14 k → Fp32 k → False := symP (new_apart2P hb34 fun _ hg => hW17.lt hg)
    have ap_Fp32_b24 : ¬ Fp32 b24 := new_apartP hb34 B27.lt
    have gA_Fp32 := gA_newP hF hb34
    replace hV := hV.new hN36
    replace B4 := B4.new hN36
    replace H16 := H16.new hN36
    replace hW17 := hW17.new hN36
    replace B27 := B27.new hN36
    replace hF := hF.trNew hN36
    refine fx_val (v := .pointer (some ⟨b31, 0, none⟩)) fr rfl rfl (by first | decide | simp) (x_assign rfl (fr.ev rfl)) ?_
    clear fr a; intro a fr
    refine wpList_nil ?_
    refine fx_next ?_
    refine wp_seq ?_
    refine wp_region_lit ?_  -- region 5
    refine fx_val (v := .pointer (some ⟨b11, 0, none⟩)) fr rfl rfl (by first | decide | simp) (x_move rfl (fr.ev rfl)) ?_
    clear fr a; intro a fr
    refine fx_call fr rfl rfl (by first | decide | simp) (x_call (vs := [.pointer (some ⟨b11, 0, none⟩)]) rfl rfl ⟨(fr.ev rfl), trivial⟩ Try.func28 nm28 rfl) (all_c H16) ?_
    clear fr a
    rintro v w45 ⟨bn37, b39, Fp40, rfl, Bn38, H41, hb42, hf43, hx44, hN46⟩ a fr
    have ap_P_bn37 : Apart P bn37 := hV.apart hb42
    have ne_b1_bn37 : NE b1 bn37 := NE.mk (Nat.lt_of_lt_of_le B4.lt hb42)
    have ap_Fp12_bn37 : ¬ Fp12 bn37 := H16.apart hb42
    have ap_V14_bn37 : Apart V14 bn37 := hW17.apart hb42
    have ne_b24_bn37 : NE b24 bn37 := NE.mk (Nat.lt_of_lt_of_le B27.lt hb42)
    have ap_Fp32_bn37 : ¬ Fp32 bn37 := H33.apart hb42
    have g_bn37 := Nat.le_trans hF.size hb42
    have ap2_P_Fp40 : ∀ k, inA P k → Fp40 k → False := symP (new_apart2P hf43 fun _ hg => hV.lt hg)
    have ap_Fp40_b1 : ¬ Fp40 b1 := new_apartP hf43 B4.lt
    have ap2_Fp12_Fp40 : ∀ k, Fp12 k → Fp40 k → False := symP (new_apart2P hf43 fun _ hg => H16.lt hg)
    have ap2_V14_Fp40 : ∀ k, inA V14 k → Fp40 k → False := symP (new_apart2P hf43 fun _ hg => hW17.lt hg)
    have ap_Fp40_b24 : ¬ Fp40 b24 := new_apartP hf43 B27.lt
    have ap2_Fp32_Fp40 : ∀ k, Fp32 k → Fp40 k → False := symP (new_apart2P hf43 fun _ hg => H33.lt hg)
    have gA_Fp40 := gA_newP hF hf43
    replace hV := hV.new hN46
    replace B4 := B4.new hN46
    replace H16 := H16.new hN46
    replace hW17 := hW17.new hN46
    replace B27 := B27.new hN46
    replace H33 := H33.new hN46
    replace hF := hF.trNew hN46
    have ap_Fp40_bn37 : ¬ Fp40 bn37 := hx44
    refine fx_val (v := .func (.func 40) #[] #[.pointer (some ⟨bn37, 0, none⟩)]) fr rfl rfl (by first | decide | simp) (x_assign rfl (fr.ev rfl)) ?_
    clear fr a; intro a fr
    refine wpList_nil ?_
    refine fx_next ?_
    refine wp_seq ?_
    refine wp_seq ?_
    refine wp_region_lit ?_  -- region 6
    refine fx_val (v := .bool true) fr rfl rfl (by first | decide | simp) (x_move rfl (fr.ev rfl)) ?_
    clear fr a; intro a fr
    refine fx_val (v := .bool false) fr rfl rfl (by first | decide | simp) (x_not rfl (fr.ev rfl) rfl) ?_
    clear fr a; intro a fr
    refine fx_val (v := .bool false) fr rfl rfl (by first | decide | simp) (x_move rfl (fr.ev rfl)) ?_
    clear fr a; intro a fr
    refine fx_val (v := .pointer (some ⟨b11, 0, none⟩)) fr (fr.want rfl rfl rfl) rfl (by first | decide | simp) (x_move rfl (fr.ev rfl)) ?_
    clear fr a; intro a fr
    refine fx_val (v := .pointer (some ⟨b31, 0, none⟩)) fr (fr.want rfl rfl rfl) rfl (by first | decide | simp) (x_move rfl (fr.ev rfl)) ?_
    clear fr a; intro a fr
    refine fx_call fr (fr.want rfl rfl rfl) rfl (by first | decide | simp) (x_call (vs := [.pointer (some ⟨b11, 0, none⟩), .pointer (some ⟨b31, 0, none⟩)]) rfl rfl ⟨(fr.ev rfl), (fr.ev rfl), trivial⟩ Try.func27 nm27 rfl) (same_xx H16 H33) ?_
    clear fr a
    rintro v w47 ⟨rfl, hN48⟩ a fr
    replace hV := hV.new hN48
    replace B4 := B4.new hN48
    replace H16 := H16.new hN48
    replace hW17 := hW17.new hN48
    replace B27 := B27.new hN48
    replace H33 := H33.new hN48
    replace Bn38 := Bn38.new hN48
    replace H41 := H41.new hN48
    replace hF := hF.trNew hN48
    rw [same_t (n := n) (A := L13) (w := ways)] at fr
    refine fx_val (v := .bool false) fr (fr.want rfl rfl rfl) rfl (by first | decide | simp) (x_not rfl (fr.ev rfl) rfl) ?_
    clear fr a; intro a fr
    refine fx_val (v := .bool false) fr rfl rfl (by first | decide | simp) (x_pick_f rfl (fr.ev rfl) (fr.ev rfl)) ?_
    clear fr a; intro a fr
    refine wpList_nil ?_
    refine fx_next ?_
    refine fx_cond_f fr rfl ?_
    refine wp_skip ?_
    refine fx_next ?_
    refine wp_seq ?_
    refine wp_region_lit ?_  -- region 8
    refine fx_val (v := .agg (#[.int .i64 ((n : Nat) : Int), .int .i64 ways, .slice V14 L13.length vc15])) fr rfl rfl (by first | decide | simp) (x_loadS ag28 rfl (fr.ev rfl) rfl B27.range) ?_
    clear fr a; intro a fr
    refine fx_new fr rfl rfl (by first | decide | simp) (x_alloc (z := .agg (#[.int .i64 0, .int .i64 0, .slice none 0 0])) (cs := #[.int .i64 0, .int .i64 0, .slice none 0 0]) rfl (by kernel_rfl) rfl) ?_
    clear fr a
    intro b49 w50 hN51 B52 hb53 a fr
    have ap_P_b49 : Apart P b49 := hV.apart hb53
    have ne_b1_b49 : NE b1 b49 := NE.mk (Nat.lt_of_lt_of_le B4.lt hb53)
    have ap_Fp12_b49 : ¬ Fp12 b49 := H16.apart hb53
    have ap_V14_b49 : Apart V14 b49 := hW17.apart hb53
    have ne_b24_b49 : NE b24 b49 := NE.mk (Nat.lt_of_lt_of_le B27.lt hb53)
    have ap_Fp32_b49 : ¬ Fp32 b49 := H33.apart hb53
    have ne_bn37_b49 : NE bn37 b49 := NE.mk (Nat.lt_of_lt_of_le Bn38.lt hb53)
    have ap_Fp40_b49 : ¬ Fp40 b49 := H41.apart hb53
    have g_b49 := Nat.le_trans hF.size hb53
    replace hV := hV.new hN51
    replace B4 := B4.new hN51
    replace H16 := H16.new hN51
    replace hW17 := hW17.new hN51
    replace B27 := B27.new hN51
    replace H33 := H33.new hN51
    replace Bn38 := Bn38.new hN51
    replace H41 := H41.new hN51
    replace hF := hF.trNew hN51
    refine fx_storeS sz28 rfl rfl rfl (fr.ev rfl) (fr.ev rfl) (by simp [Value.oneCell']) B52 rfl rfl fun w54 hO55 hBq => ?_
    replace hV := hV.only hO55 (Apart.ne1 ap_P_b49)
    replace B4 := B4.only hO55 (by first | exact ne_b1_b49 | exact ne_b49_b1.symm | (show ¬ b1 = b49; omega))
    replace H16 := H16.only hO55 (ne1P ap_Fp12_b49)
    replace hW17 := hW17.only hO55 (Apart.ne1 ap_V14_b49)
    replace B27 := B27.only hO55 (by first | exact ne_b24_b49 | exact ne_b49_b24.symm | (show ¬ b24 = b49; omega))
    replace H33 := H33.only hO55 (ne1P ap_Fp32_b49)
    replace Bn38 := Bn38.only hO55 (by first | exact ne_bn37_b49 | exact ne_b49_bn37.symm | (show ¬ bn37 = b49; omega))
    replace H41 := H41.only hO55 (ne1P ap_Fp40_b49)
    replace hF := hF.loc hO55 (.inr g_b49)
    replace B52 := hBq
    clear hBq
    refine wpList_nil ?_
    refine fx_next ?_
    refine wp_seq ?_
    refine wp_seq ?_
    have hqn := q.ln.hn
    refine wp_region_lit ?_  -- region 9
    refine fx_val (v := .pointer (some ⟨b1, 0, none⟩)) fr rfl rfl (by first | decide | simp) (x_fieldAddr fo57_0 rfl (fr.ev rfl) rfl) ?_
    clear fr a; intro a fr
    refine fx_val (v := .int .i64 q.what) fr rfl rfl (by first | decide | simp) (x_load1 pl3 rfl (fr.ev rfl) (B4.cell 0 rfl)) ?_
    clear fr a; intro a fr
    refine fx_val (v := .bool false) fr rfl rfl (by first | decide | simp) (x_neq rfl (fr.ev rfl) rfl (decide_eq_false hq0)) ?_
    clear fr a; intro a fr
    refine wpList_nil ?_
    refine fx_next ?_
    refine fx_cond_f fr rfl ?_
    refine wp_seq ?_
    refine wp_region_lit ?_  -- region 12
    refine fx_val (v := .agg (#[.int .i64 ((n : Nat) : Int), .int .i64 ways, .slice V14 L13.length vc15])) fr rfl rfl (by first | decide | simp) (x_loadS ag28 rfl (fr.ev rfl) rfl B27.range) ?_
    clear fr a; intro a fr
    refine fx_val (v := .pointer (some ⟨b1, 1, none⟩)) fr rfl rfl (by first | decide | simp) (x_fieldAddr fo57_1 rfl (fr.ev rfl) rfl) ?_
    clear fr a; intro a fr
    refine fx_val (v := .agg (lnE.arr q.ln)) fr rfl rfl (by first | decide | simp) (x_loadE (E := lnE) ag39 rfl rfl (fr.ev rfl) (B4.part (act_lnA _))) ?_
    clear fr a; intro a fr
    refine fx_call fr rfl rfl (by first | decide | simp) (x_call (vs := [.agg (#[.int .i64 ((n : Nat) : Int), .int .i64 ways, .slice V14 L13.length vc15]), .agg (lnE.arr q.ln)]) rfl rfl ⟨(fr.ev rfl), (fr.ev rfl), trivial⟩ Try.func19 nm19 rfl) (rput_c q.ln (n := n) (ways := ways) (L := L13) (hW17) (by first | omega | decide) (by omega) (by first | omega | decide)) ?_
    clear fr a
    rintro v w60 ⟨A56, cap57, rfl, V58, mv59, hN61⟩ a fr
    have ap_A56_b1 : Apart A56 b1 := moved_apart mv59 ap_V14_b1 B4.lt
    have ap2_A56_Fp12 : ∀ k, inA A56 k → Fp12 k → False := moved_apart2P mv59 (symP ap2_Fp12_V14) fun _ hg => H16.lt hg
    have ap_A56_b24 : Apart A56 b24 := moved_apart mv59 ap_V14_b24 B27.lt
    have ap2_A56_Fp32 : ∀ k, inA A56 k → Fp32 k → False := moved_apart2P mv59 ap2_V14_Fp32 fun _ hg => H33.lt hg
    have ap_A56_bn37 : Apart A56 bn37 := moved_apart mv59 ap_V14_bn37 Bn38.lt
    have ap2_A56_Fp40 : ∀ k, inA A56 k → Fp40 k → False := moved_apart2P mv59 ap2_V14_Fp40 fun _ hg => H41.lt hg
    have ap_A56_b49 : Apart A56 b49 := moved_apart mv59 ap_V14_b49 B52.lt
    have gA_A56 := gA_moved hF mv59 gA_V14
    replace hV := hV.new hN61
    replace B4 := B4.new hN61
    replace H16 := H16.new hN61
    replace hW17 := hW17.new hN61
    replace B27 := B27.new hN61
    replace H33 := H33.new hN61
    replace Bn38 := Bn38.new hN61
    replace H41 := H41.new hN61
    replace B52 := B52.new hN61
    replace hF := hF.trNew hN61
    refine fx_val (v := .tuple #[.agg (#[.int .i64 ((n : Nat) : Int), .int .i64 ways, .slice A56 ((putL n ways L13 q.ln).length) cap57]), .int .i64 (putE n ways L13 q.ln)]) fr rfl rfl (by first | decide | simp) (x_move rfl (fr.ev rfl)) ?_
    clear fr a; intro a fr
    refine fx_val (v := .agg (#[.int .i64 ((n : Nat) : Int), .int .i64 ways, .slice A56 ((putL n ways L13 q.ln).length) cap57])) fr rfl rfl (by first | decide | simp) (x_extract rfl (fr.ev rfl) rfl) ?_
    clear fr a; intro a fr
    refine fx_val (v := .int .i64 (putE n ways L13 q.ln)) fr rfl rfl (by first | decide | simp) (x_extract rfl (fr.ev rfl) rfl) ?_
    clear fr a; intro a fr
    refine fx_storeS sz28 rfl rfl rfl (fr.ev rfl) (fr.ev rfl) (by simp [Value.oneCell']) B52 rfl rfl fun w62 hO63 hBq => ?_
    replace hV := hV.only hO63 (Apart.ne1 ap_P_b49)
    replace B4 := B4.only hO63 (by first | exact ne_b1_b49 | exact ne_b49_b1.symm | (show ¬ b1 = b49; omega))
    replace H16 := H16.only hO63 (ne1P ap_Fp12_b49)
    replace hW17 := hW17.only hO63 (Apart.ne1 ap_V14_b49)
    replace B27 := B27.only hO63 (by first | exact ne_b24_b49 | exact ne_b49_b24.symm | (show ¬ b24 = b49; omega))
    replace H33 := H33.only hO63 (ne1P ap_Fp32_b49)
    replace Bn38 := Bn38.only hO63 (by first | exact ne_bn37_b49 | exact ne_b49_bn37.symm | (show ¬ bn37 = b49; omega))
    replace H41 := H41.only hO63 (ne1P ap_Fp40_b49)
    replace V58 := V58.only hO63 (Apart.ne1 ap_A56_b49)
    replace hF := hF.loc hO63 (.inr g_b49)
    replace B52 := hBq
    clear hBq
    refine wpList_nil ?_
    refine fx_next ?_
    refine wp_region_lit ?_  -- region 13
    refine fx_val (v := .pointer (some ⟨b11, 0, none⟩)) fr rfl rfl (by first | decide | simp) (x_move rfl (fr.ev rfl)) ?_
    clear fr a; intro a fr
    refine fx_val (v := .pointer (some ⟨b1, 1, none⟩)) fr rfl rfl (by first | decide | simp) (x_fieldAddr fo57_1 rfl (fr.ev rfl) rfl) ?_
    clear fr a; intro a fr
    refine fx_val (v := .agg (lnE.arr q.ln)) fr rfl rfl (by first | decide | simp) (x_loadE (E := lnE) ag39 rfl rfl (fr.ev rfl) (B4.part (act_lnA _))) ?_
    clear fr a; intro a fr
    refine fx_call fr rfl rfl (by first | decide | simp) (x_call (vs := [.pointer (some ⟨b11, 0, none⟩), .agg (lnE.arr q.ln)]) rfl rfl ⟨(fr.ev rfl), (fr.ev rfl), trivial⟩ Try.func21 nm21 rfl) (put_c q.ln H16) ?_
    clear fr a
    rintro v w67 ⟨rfl, Fp64, H65, hN68, mv66⟩ a fr
    have ap2_Fp64_P : ∀ k, Fp64 k → inA P k → False := moved_apart2P mv66 (symP ap2_P_Fp12) fun _ hg => hV.lt hg
    have ap_Fp64_b1 : ¬ Fp64 b1 := moved_apartP mv66 ap_Fp12_b1 B4.lt
    have ap2_Fp64_V14 : ∀ k, Fp64 k → inA V14 k → False := moved_apart2P mv66 ap2_Fp12_V14 fun _ hg => hW17.lt hg
    have ap_Fp64_b24 : ¬ Fp64 b24 := moved_apartP mv66 ap_Fp12_b24 B27.lt
    have ap2_Fp64_Fp32 : ∀ k, Fp64 k → Fp32 k → False := moved_apart2P mv66 ap2_Fp12_Fp32 fun _ hg => H33.lt hg
    have ap_Fp64_bn37 : ¬ Fp64 bn37 := moved_apartP mv66 ap_Fp12_bn37 Bn38.lt
    have ap2_Fp64_Fp40 : ∀ k, Fp64 k → Fp40 k → False := moved_apart2P mv66 ap2_Fp12_Fp40 fun _ hg => H41.lt hg
    have ap2_Fp64_A56 : ∀ k, Fp64 k → inA A56 k → False := moved_apart2P mv66 (symP ap2_A56_Fp12) fun _ hg => V58.lt hg
    have ap_Fp64_b49 : ¬ Fp64 b49 := moved_apartP mv66 ap_Fp12_b49 B52.lt
    have gA_Fp64 := gA_movedP hF mv66 gA_Fp12
    replace hV := hV.only hN68 (fun g h1 h2 => ap2_P_Fp12 g h1 h2)
    replace B4 := B4.only hN68 ap_Fp12_b1
    replace hW17 := hW17.only hN68 (fun g h1 h2 => (symP ap2_Fp12_V14) g h1 h2)
    replace B27 := B27.only hN68 ap_Fp12_b24
    replace H33 := H33.only hN68 (fun g h1 h2 => (symP ap2_Fp12_Fp32) g h1 h2)
    replace Bn38 := Bn38.only hN68 ap_Fp12_bn37
    replace H41 := H41.only hN68 (fun g h1 h2 => (symP ap2_Fp12_Fp40) g h1 h2)
    replace V58 := V58.only hN68 (fun g h1 h2 => ap2_A56_Fp12 g h1 h2)
    replace B52 := B52.only hN68 ap_Fp12_b49
    replace hF := hF.locP hN68 gA_Fp12
    clear H16
    refine wpList_nil ?_
    refine fx_next ?_
    refine wp_seq ?_
    have hL2 : (putL n ways L13 q.ln).length ≤ 100000 := by have := putL_le n ways L13 q.ln; omega
    refine wp_region_lit ?_  -- region 14
    refine fx_new fr rfl rfl (by first | decide | simp) (x_alloc (z := .slice none 0 0) (cs := #[.slice none 0 0]) rfl (by kernel_rfl) rfl) ?_
    clear fr a
    intro b69 w70 hN71 B72 hb73 a fr
    have ap_P_b69 : Apart P b69 := hV.apart hb73
    have ne_b1_b69 : NE b1 b69 := NE.mk (Nat.lt_of_lt_of_le B4.lt hb73)
    have ap_V14_b69 : Apart V14 b69 := hW17.apart hb73
    have ne_b24_b69 : NE b24 b69 := NE.mk (Nat.lt_of_lt_of_le B27.lt hb73)
    have ap_Fp32_b69 : ¬ Fp32 b69 := H33.apart hb73
    have ne_bn37_b69 : NE bn37 b69 := NE.mk (Nat.lt_of_lt_of_le Bn38.lt hb73)
    have ap_Fp40_b69 : ¬ Fp40 b69 := H41.apart hb73
    have ap_A56_b69 : Apart A56 b69 := V58.apart hb73
    have ne_b49_b69 : NE b49 b69 := NE.mk (Nat.lt_of_lt_of_le B52.lt hb73)
    have ap_Fp64_b69 : ¬ Fp64 b69 := H65.apart hb73
    have g_b69 := Nat.le_trans hF.size hb73
    replace hV := hV.new hN71
    replace B4 := B4.new hN71
    replace hW17 := hW17.new hN71
    replace B27 := B27.new hN71
    replace H33 := H33.new hN71
    replace Bn38 := Bn38.new hN71
    replace H41 := H41.new hN71
    replace V58 := V58.new hN71
    replace B52 := B52.new hN71
    replace H65 := H65.new hN71
    replace hF := hF.trNew hN71
    refine wpList_nil ?_
    refine fx_next ?_
    refine wp_seq ?_
    refine wp_seq ?_
    refine wp_region_lit ?_  -- region 15
    refine fx_val (v := .func (.func 40) #[] #[.pointer (some ⟨bn37, 0, none⟩)]) fr rfl rfl (by first | decide | simp) (x_move rfl (fr.ev rfl)) ?_
    clear fr a; intro a fr
    refine wpList_nil ?_
    refine fx_next ?_
    refine wp_block ?_
    have lt_b69 := B72.lt
    refine fx_range (xs := allL n L13) (e := fun x : Ln => Value.agg (lnE.arr x)) fr rfl (show 79 < 156 by decide) (enters_of Try.func40 nm40 rfl) (SI := fun k => k = b69 ∨ w70.heap.size ≤ k) (fun _ h => .inr h) (all_stops H41 Bn38 (fun h => h.elim (by first | exact ne_bn37_b69 | exact ne_b69_bn37.symm | (show ¬ bn37 = b69; omega)) (fun h => by have := Bn38.lt; omega)) (fun g hg => (fun h => h.elim ((ne1P ap_Fp40_b69) g hg) (fun h => by have := H41.lt hg; omega)))) (fun pre W => ∃ A : Option Addr, ∃ cap : Nat, Blk W b69 26 #[.slice A pre.length cap] ∧ Own lnE W A cap pre ∧ Only (fun k => k = b69) w70 W ∧ ∀ g, inA A g → w70.heap.size ≤ g) (fun c pre W => False) (fun x a' W => ∃ b74 : Nat, Blk W b74 39 (lnE.arr x) ∧ w70.heap.size ≤ b74 ∧ Fr (156, []) [(0, .int .i64 ((n : Nat) : Int)), (1, .int .i64 ways), (2, .slice P la.length cp), (3, .agg (actE.arr q)), (7, .pointer (some ⟨b1, 0, none⟩)), (8, .bool false), (23, .int .i64 ((n : Nat) : Int)), (24, .int .i64 ways), (25, .bool true), (26, .bool false), (27, .bool false), (28, .slice P la.length cp), (29, .int .i64 ((la.length : Nat) : Int)), (30, .bool (decide (100 < ((la.length : Nat) : Int)))), (31, .bool (decide (100 < ((la.length : Nat) : Int)))), (34, .int .i64 ((n : Nat) : Int)), (35, .int .i64 ways), (36, .slice P la.length cp), (37, .tuple #[.pointer (some ⟨b11, 0, none⟩), .agg (#[.int .i64 ((n : Nat) : Int), .int .i64 ways, .slice V14 L13.length vc15]), .bool true]), (33, .tuple #[.pointer (some ⟨b11, 0, none⟩), .agg (#[.int .i64 ((n : Nat) : Int), .int .i64 ways, .slice V14 L13.length vc15]), .bool true]), (38, .pointer (some ⟨b11, 0, none⟩)), (39, .agg (#[.int .i64 ((n : Nat) : Int), .int .i64 ways, .slice V14 L13.length vc15])), (40, .bool true), (10, .pointer (some ⟨b24, 0, none⟩)), (9, .pointer (some ⟨b11, 0, none⟩)), (11, .bool true), (41, .pointer (some ⟨b11, 0, none⟩)), (42, .pointer (some ⟨b31, 0, none⟩)), (12, .pointer (some ⟨b31, 0, none⟩)), (43, .pointer (some ⟨b11, 0, none⟩)), (44, .func (.func 40) #[] #[.pointer (some ⟨bn37, 0, none⟩)]), (13, .func (.func 40) #[] #[.pointer (some ⟨bn37, 0, none⟩)]), (45, .bool true), (46, .bool false), (47, .bool false), (48, .pointer (some ⟨b11, 0, none⟩)), (49, .pointer (some ⟨b31, 0, none⟩)), (50, .bool true), (51, .bool false), (52, .bool false), (53, .agg (#[.int .i64 ((n : Nat) : Int), .int .i64 ways, .slice V14 L13.length vc15])), (14, .pointer (some ⟨b49, 0, none⟩)), (54, .pointer (some ⟨b1, 0, none⟩)), (55, .int .i64 q.what), (56, .bool false), (68, .agg (#[.int .i64 ((n : Nat) : Int), .int .i64 ways, .slice V14 L13.length vc15])), (69, .pointer (some ⟨b1, 1, none⟩)), (70, .agg (lnE.arr q.ln)), (71, .tuple #[.agg (#[.int .i64 ((n : Nat) : Int), .int .i64 ways, .slice A56 ((putL n ways L13 q.ln).length) cap57]), .int .i64 (putE n ways L13 q.ln)]), (67, .tuple #[.agg (#[.int .i64 ((n : Nat) : Int), .int .i64 ways, .slice A56 ((putL n ways L13 q.ln).length) cap57]), .int .i64 (putE n ways L13 q.ln)]), (72, .agg (#[.int .i64 ((n : Nat) : Int), .int .i64 ways, .slice A56 ((putL n ways L13 q.ln).length) cap57])), (73, .int .i64 (putE n ways L13 q.ln)), (74, .pointer (some ⟨b11, 0, none⟩)), (75, .pointer (some ⟨b1, 1, none⟩)), (76, .agg (lnE.arr q.ln)), (77, .int .i64 (putE n ways L13 q.ln)), (15, .pointer (some ⟨b69, 0, none⟩)), (78, .func (.func 40) #[] #[.pointer (some ⟨bn37, 0, none⟩)]), (79, .agg (lnE.arr x)), (16, .pointer (some ⟨b74, 0, none⟩))] a') ?_ ?_ ?_ ?_ ⟨none, 0, B72, Own.nil, Only.refl _ _, (fun g hg => absurd hg (apart_none g))⟩ ?_ ?_ ?_ ?_
    · rintro pre W W' ⟨A, cap, Bo, Oc, hC, hg_A⟩ hT; exact ⟨A, cap, Bo.turn hT, Oc.turn hT, hC.turn hT (Nat.le_refl _), hg_A⟩
    · exact fun _ _ _ _ h _ => h.elim
    · rintro x a' _ W W' ⟨b74, B77, h_b74, hf⟩ hT; exact ⟨b74, B77.turn hT, h_b74, hf⟩
    · rintro pre W W' ⟨A, cap, Bo, Oc, hC, hg_A⟩ hN; exact ⟨A, cap, Bo.new hN, Oc.new hN, hC.trNew hN, hg_A⟩
    · skip
      rintro l pre x W K ⟨A, cap, Bo, Oc, hC, hg_A⟩ hK a fr
      have hF := Only.refl (fun _ => False) W
      refine fxr_region (by kernel_rfl) (by rintro ⟨_, _, h⟩; exact h) ?_  -- region 16
      refine fx_new fr rfl rfl (by first | decide | simp) (x_alloc (z := .agg (#[.int .u32 0, .int .i64 0, .int .u8 0, .int .u8 0, .int .u8 0, .int .u8 0, .int .u8 0, .int .u8 0, .int .u8 0, .int .u8 0, .int .u8 0, .int .u8 0, .int .u8 0, .int .u8 0, .int .u8 0, .int .u8 0, .int .u8 0, .int .u8 0])) (cs := lnE.arr ln0) rfl (by kernel_rfl) rfl) ?_
      clear fr a
      intro b74 w75 hN76 B77 hb78 a fr
      have g_b74 := Nat.le_trans hF.size hb78
      replace hF := hF.trNew hN76
      refine fx_storeS sz39 rfl rfl rfl (fr.ev rfl) (fr.ev rfl) (lnE.all _) B77 (lnE.size _) (lnE.size _) fun w79 hO80 hBq => ?_
      replace hF := hF.loc hO80 (.inr g_b74)
      replace B77 := hBq
      clear hBq
      refine wpList_nil ?_
      refine hK _ _ hF ⟨b74, B77, Nat.le_trans hC.size g_b74, fr.sub ⟨rfl, rfl, rfl, rfl, rfl, rfl, rfl, rfl, rfl, rfl, rfl, rfl, rfl, rfl, rfl, rfl, rfl, rfl, rfl, rfl, rfl, rfl, rfl, rfl, rfl, rfl, rfl, rfl, rfl, rfl, rfl, rfl, rfl, rfl, rfl, rfl, rfl, rfl, rfl, rfl, rfl, rfl, rfl, rfl, rfl, rfl, rfl, rfl, rfl, rfl, rfl, rfl, rfl, rfl, rfl, rfl, rfl, rfl, rfl, rfl, trivial⟩⟩
    · skip
      rintro lq pre x a W ⟨A, cap, Bo, Oc, hC, hg_A⟩ ⟨b74, B77, h_b74, fr⟩ hlen
      have ne_b69_b74 : NE b69 b74 := NE.mk (Nat.lt_of_lt_of_le lt_b69 h_b74)
      have ap_A_b69 : Apart A b69 := fun h => by have := hg_A _ h; omega
      have cl_b69 := Bo.cells
      have cl_A := fun g (hg : inA A g) => Oc.cells hg
      have hF := Only.refl (fun k => k = b69 ∨ inA A k) W
      have gA_A : ∀ g, inA A g → (fun k => k = b69 ∨ inA A k) g ∨ W.heap.size ≤ g := fun g hg => .inl (Or.inr (hg))
      have hcl : ∀ k, k < W.heap.size → (fun k => k = b69 ∨ inA A k) k → (fun k => k = b69 ∨ w70.heap.size ≤ k) k ∧ ∃ o : Obj, W.heap[k]? = some o ∧ o.isCells = true := by
        rintro k _ (rfl | hs)
        · exact ⟨Or.inl rfl, cl_b69⟩
        · exact ⟨Or.inr (hg_A k hs), cl_A k hs⟩
      have hSS : ∀ k, k < w70.heap.size → (fun k => k = b69 ∨ inA A k) k → (fun k => k = b69) k := by
        rintro k hk (rfl | hs)
        · exact rfl
        · have := hg_A k hs; omega
      have hxl : pre.length ≤ 100000 := by have := hxs; omega
      refine wpIn_block ?_
      refine fxr_region (by kernel_rfl) (by rintro ⟨_, _, h⟩; exact h) ?_  -- region 17
      refine fx_val (v := .slice A pre.length cap) fr rfl rfl (by first | decide | simp) (x_load1 pl26 rfl (fr.ev rfl) (Bo.cell 0 rfl)) ?_
      clear fr a; intro a fr
      refine fx_val (v := .agg (lnE.arr x)) fr rfl rfl (by first | decide | simp) (x_loadE (E := lnE) ag39 rfl rfl (fr.ev rfl) (B77.rangeE lnE)) ?_
      clear fr a; intro a fr
      refine fx_build1 (E := lnE) (p := x) elLn (by decide) fr rfl rfl (by decide) rfl (fr.ev rfl) ?_
      clear fr a
      intro A81 w82 hN83 O84 hA85 a fr
      have ap_A81_b69 : Apart A81 b69 := new_apart hA85 Bo.lt
      have ap2_A_A81 : Apart2 A A81 := (new_apart2 hA85 fun _ hg => Oc.lt hg).symm
      have ap_A81_b74 : Apart A81 b74 := new_apart hA85 B77.lt
      have gA_A81 := gA_new hF hA85
      replace Bo := Bo.new hN83
      replace Oc := Oc.new hN83
      replace B77 := B77.new hN83
      replace hF := hF.trNew hN83
      refine fx_append (E := lnE) (l := pre) (l' := [x]) elLn fr rfl rfl (by decide) rfl (fr.ev rfl) (fr.ev rfl) (by first | rfl | (simp; done) | (simp; omega)) (by first | rfl | (simp; done) | (simp; omega)) Oc O84.view (by first | omega | (simp only [List.length_append, List.length_cons, List.length_nil]; omega)) (by unfold maxLen; first | omega | (simp; omega)) ?_
      clear fr a
      intro A86 cap87 w88 O89 hO90 mv91 a fr
      have ap_A86_b69 : Apart A86 b69 := moved_apart mv91 ap_A_b69 Bo.lt
      have ap2_A86_A81 : Apart2 A86 A81 := moved_apart2 mv91 ap2_A_A81 fun _ hg => O84.lt hg
      have gA_A86 := gA_moved hF mv91 gA_A
      replace Bo := Bo.only hO90 ap_A_b69
      replace O84 := O84.only hO90 (fun g h1 h2 => ap2_A_A81.symm g h1 h2)
      replace hF := hF.locA hO90 gA_A
      clear Oc
      refine fx_store1 sz26 rfl rfl rfl (fr.ev rfl) (fr.ev rfl) rfl Bo (show 0 < 1 by decide) (cs' := #[.slice A86 ((pre ++ ([x])).length) cap87]) rfl fun w92 hO93 hBq => ?_
      replace O84 := O84.only hO93 (Apart.ne1 ap_A81_b69)
      replace O89 := O89.only hO93 (Apart.ne1 ap_A86_b69)
      replace hF := hF.loc hO93 (.inl (Or.inl rfl))
      replace Bo := hBq
      clear hBq
      refine wpList_nil ?_
      refine fx_blk ?_
      exact ⟨⟨_, hF, hcl⟩, A86, cap87, Bo, O89, hC.trans hF hSS, (fun g hg => (gA_A86 g hg).elim (fun h => by rcases h with rfl | hs; all_goals first | exact hg_A g hs | exact absurd hg (by first | exact ap_A86_b69 | (intro h; exact h))) (fun h => Nat.le_trans hC.size h))⟩
    · skip
      rintro D94 W1 hD ⟨A, cap, Bo, Oc, hC, hg_A⟩ hD_D94 a fr
      have g_D94 := Nat.le_trans hF.size hD
      have ap_A_b69 : Apart A b69 := fun h => by have := hg_A _ h; have := lt_b69; omega
      have ap2_P_A : Apart2 P A := (new_apart2 hg_A fun _ hg => hV.lt hg).symm
      have ap_A_b1 : Apart A b1 := new_apart hg_A B4.lt
      have ap2_V14_A : Apart2 V14 A := (new_apart2 hg_A fun _ hg => hW17.lt hg).symm
      have ap_A_b24 : Apart A b24 := new_apart hg_A B27.lt
      have ap2_Fp32_A : ∀ k, Fp32 k → inA A k → False := symP (new_apart2P hg_A fun _ hg => H33.lt hg)
      have ap_A_bn37 : Apart A bn37 := new_apart hg_A Bn38.lt
      have ap2_Fp40_A : ∀ k, Fp40 k → inA A k → False := symP (new_apart2P hg_A fun _ hg => H41.lt hg)
      have ap2_A56_A : Apart2 A56 A := (new_apart2 hg_A fun _ hg => V58.lt hg).symm
      have ap_A_b49 : Apart A b49 := new_apart hg_A B52.lt
      have ap2_Fp64_A : ∀ k, Fp64 k → inA A k → False := symP (new_apart2P hg_A fun _ hg => H65.lt hg)
      have gA_A := gA_new hF hg_A
      replace hV := hV.only hC (Apart.ne1 ap_P_b69)
      replace B4 := B4.only hC (by first | exact ne_b1_b69 | exact ne_b69_b1.symm | (show ¬ b1 = b69; omega))
      replace hW17 := hW17.only hC (Apart.ne1 ap_V14_b69)
      replace B27 := B27.only hC (by first | exact ne_b24_b69 | exact ne_b69_b24.symm | (show ¬ b24 = b69; omega))
      replace H33 := H33.only hC (ne1P ap_Fp32_b69)
      replace Bn38 := Bn38.only hC (by first | exact ne_bn37_b69 | exact ne_b69_bn37.symm | (show ¬ bn37 = b69; omega))
      replace H41 := H41.only hC (ne1P ap_Fp40_b69)
      replace V58 := V58.only hC (Apart.ne1 ap_A56_b69)
      replace B52 := B52.only hC (by first | exact ne_b49_b69 | exact ne_b69_b49.symm | (show ¬ b49 = b69; omega))
      replace H65 := H65.only hC (ne1P ap_Fp64_b69)
      replace hF := hF.loc hC (.inr g_b69)
      have ne_b1_D94 := B4.mark hD_D94
      have ne_b24_D94 := B27.mark hD_D94
      have ne_bn37_D94 := Bn38.mark hD_D94
      have ne_b49_D94 := B52.mark hD_D94
      have ne_b69_D94 := Bo.mark hD_D94
      have ap_A_D94 := Oc.mark hD_D94
      refine fx_blk ?_
      refine fx_next ?_
      refine wp_seq ?_
      refine wp_region_lit ?_  -- region 18
      refine fx_new fr rfl rfl (by first | decide | simp) (x_alloc (z := .int .i64 0) (cs := #[.int .i64 0]) rfl (by kernel_rfl) rfl) ?_
      clear fr a
      intro b95 w96 hN97 B98 hb99 a fr
      have ap_P_b95 : Apart P b95 := hV.apart hb99
      have ne_b1_b95 : NE b1 b95 := NE.mk (Nat.lt_of_lt_of_le B4.lt hb99)
      have ap_V14_b95 : Apart V14 b95 := hW17.apart hb99
      have ne_b24_b95 : NE b24 b95 := NE.mk (Nat.lt_of_lt_of_le B27.lt hb99)
      have ap_Fp32_b95 : ¬ Fp32 b95 := H33.apart hb99
      have ne_bn37_b95 : NE bn37 b95 := NE.mk (Nat.lt_of_lt_of_le Bn38.lt hb99)
      have ap_Fp40_b95 : ¬ Fp40 b95 := H41.apart hb99
      have ap_A56_b95 : Apart A56 b95 := V58.apart hb99
      have ne_b49_b95 : NE b49 b95 := NE.mk (Nat.lt_of_lt_of_le B52.lt hb99)
      have ap_Fp64_b95 : ¬ Fp64 b95 := H65.apart hb99
      have ne_b69_b95 : NE b69 b95 := NE.mk (Nat.lt_of_lt_of_le Bo.lt hb99)
      have ap_A_b95 : Apart A b95 := Oc.apart hb99
      have ne_D94_b95 : NE D94 b95 := NE.mk (Nat.lt_of_lt_of_le hD_D94.lt hb99)
      have g_b95 := Nat.le_trans hF.size hb99
      replace hV := hV.new hN97
      replace B4 := B4.new hN97
      replace hW17 := hW17.new hN97
      replace B27 := B27.new hN97
      replace H33 := H33.new hN97
      replace Bn38 := Bn38.new hN97
      replace H41 := H41.new hN97
      replace V58 := V58.new hN97
      replace B52 := B52.new hN97
      replace H65 := H65.new hN97
      replace Bo := Bo.new hN97
      replace Oc := Oc.new hN97
      replace hD_D94 := hD_D94.new hN97
      replace hF := hF.trNew hN97
      refine fx_store1 sz3 rfl rfl rfl (fr.ev rfl) rfl rfl B98 (show 0 < 1 by decide) (cs' := #[.int .i64 0]) rfl fun w100 hO101 hBq => ?_
      replace hV := hV.only hO101 (Apart.ne1 ap_P_b95)
      replace B4 := B4.only hO101 (by first | exact ne_b1_b95 | exact ne_b95_b1.symm | (show ¬ b1 = b95; omega))
      replace hW17 := hW17.only hO101 (Apart.ne1 ap_V14_b95)
      replace B27 := B27.only hO101 (by first | exact ne_b24_b95 | exact ne_b95_b24.symm | (show ¬ b24 = b95; omega))
      replace H33 := H33.only hO101 (ne1P ap_Fp32_b95)
      replace Bn38 := Bn38.only hO101 (by first | exact ne_bn37_b95 | exact ne_b95_bn37.symm | (show ¬ bn37 = b95; omega))
      replace H41 := H41.only hO101 (ne1P ap_Fp40_b95)
      replace V58 := V58.only hO101 (Apart.ne1 ap_A56_b95)
      replace B52 := B52.only hO101 (by first | exact ne_b49_b95 | exact ne_b95_b49.symm | (show ¬ b49 = b95; omega))
      replace H65 := H65.only hO101 (ne1P ap_Fp64_b95)
      replace Bo := Bo.only hO101 (by first | exact ne_b69_b95 | exact ne_b95_b69.symm | (show ¬ b69 = b95; omega))
      replace Oc := Oc.only hO101 (Apart.ne1 ap_A_b95)
      replace hD_D94 := hD_D94.only hO101 (by first | exact ne_D94_b95 | exact ne_b95_D94.symm | (show ¬ D94 = b95; omega))
      replace hF := hF.loc hO101 (.inr g_b95)
      replace B98 := hBq
      clear hBq
      refine wpList_nil ?_
      refine fx_next ?_
      refine wp_seq ?_
      refine wp_seq ?_
      refine wp_region_lit ?_  -- region 19
      refine fx_val (v := .func (.func 40) #[] #[.pointer (some ⟨bn37, 0, none⟩)]) fr rfl rfl (by first | decide | simp) (x_move rfl (fr.ev rfl)) ?_
      clear fr a; intro a fr
      refine wpList_nil ?_
      refine fx_next ?_
      refine wp_block ?_
      have lt_b95 := B98.lt
      refine fx_range (xs := allL n L13) (e := fun x : Ln => Value.agg (lnE.arr x)) fr rfl (show 85 < 156 by decide) (enters_of Try.func40 nm40 rfl) (SI := fun k => k = b95 ∨ w100.heap.size ≤ k) (fun _ h => .inr h) (all_stops H41 Bn38 (fun h => h.elim (by first | exact ne_bn37_b95 | exact ne_b95_bn37.symm | (show ¬ bn37 = b95; omega)) (fun h => by have := Bn38.lt; omega)) (fun g hg => (fun h => h.elim ((ne1P ap_Fp40_b95) g hg) (fun h => by have := H41.lt hg; omega)))) (fun pre W => Blk W b95 3 #[.int .i64 0] ∧ Only (fun k => k = b95) w100 W ∧ pre = []) (fun c pre W => (c = .exit 2 ∧ Blk W b95 3 #[.int .i64 1] ∧ Only (fun k => k = b95) w100 W ∧ pre ≠ [])) (fun x a' W => Fr (156, []) [(0, .int .i64 ((n : Nat) : Int)), (1, .int .i64 ways), (2, .slice P la.length cp), (3, .agg (actE.arr q)), (7, .pointer (some ⟨b1, 0, none⟩)), (8, .bool false), (23, .int .i64 ((n : Nat) : Int)), (24, .int .i64 ways), (25, .bool true), (26, .bool false), (27, .bool false), (28, .slice P la.length cp), (29, .int .i64 ((la.length : Nat) : Int)), (30, .bool (decide (100 < ((la.length : Nat) : Int)))), (31, .bool (decide (100 < ((la.length : Nat) : Int)))), (34, .int .i64 ((n : Nat) : Int)), (35, .int .i64 ways), (36, .slice P la.length cp), (37, .tuple #[.pointer (some ⟨b11, 0, none⟩), .agg (#[.int .i64 ((n : Nat) : Int), .int .i64 ways, .slice V14 L13.length vc15]), .bool true]), (33, .tuple #[.pointer (some ⟨b11, 0, none⟩), .agg (#[.int .i64 ((n : Nat) : Int), .int .i64 ways, .slice V14 L13.length vc15]), .bool true]), (38, .pointer (some ⟨b11, 0, none⟩)), (39, .agg (#[.int .i64 ((n : Nat) : Int), .int .i64 ways, .slice V14 L13.length vc15])), (40, .bool true), (10, .pointer (some ⟨b24, 0, none⟩)), (9, .pointer (some ⟨b11, 0, none⟩)), (11, .bool true), (41, .pointer (some ⟨b11, 0, none⟩)), (42, .pointer (some ⟨b31, 0, none⟩)), (12, .pointer (some ⟨b31, 0, none⟩)), (43, .pointer (some ⟨b11, 0, none⟩)), (44, .func (.func 40) #[] #[.pointer (some ⟨bn37, 0, none⟩)]), (13, .func (.func 40) #[] #[.pointer (some ⟨bn37, 0, none⟩)]), (45, .bool true), (46, .bool false), (47, .bool false), (48, .pointer (some ⟨b11, 0, none⟩)), (49, .pointer (some ⟨b31, 0, none⟩)), (50, .bool true), (51, .bool false), (52, .bool false), (53, .agg (#[.int .i64 ((n : Nat) : Int), .int .i64 ways, .slice V14 L13.length vc15])), (14, .pointer (some ⟨b49, 0, none⟩)), (54, .pointer (some ⟨b1, 0, none⟩)), (55, .int .i64 q.what), (56, .bool false), (68, .agg (#[.int .i64 ((n : Nat) : Int), .int .i64 ways, .slice V14 L13.length vc15])), (69, .pointer (some ⟨b1, 1, none⟩)), (70, .agg (lnE.arr q.ln)), (71, .tuple #[.agg (#[.int .i64 ((n : Nat) : Int), .int .i64 ways, .slice A56 ((putL n ways L13 q.ln).length) cap57]), .int .i64 (putE n ways L13 q.ln)]), (67, .tuple #[.agg (#[.int .i64 ((n : Nat) : Int), .int .i64 ways, .slice A56 ((putL n ways L13 q.ln).length) cap57]), .int .i64 (putE n ways L13 q.ln)]), (72, .agg (#[.int .i64 ((n : Nat) : Int), .int .i64 ways, .slice A56 ((putL n ways L13 q.ln).length) cap57])), (73, .int .i64 (putE n ways L13 q.ln)), (74, .pointer (some ⟨b11, 0, none⟩)), (75, .pointer (some ⟨b1, 1, none⟩)), (76, .agg (lnE.arr q.ln)), (77, .int .i64 (putE n ways L13 q.ln)), (15, .pointer (some ⟨b69, 0, none⟩)), (78, .func (.func 40) #[] #[.pointer (some ⟨bn37, 0, none⟩)]), (17, .pointer (some ⟨b95, 0, none⟩)), (84, .func (.func 40) #[] #[.pointer (some ⟨bn37, 0, none⟩)]), (85, .agg (lnE.arr x))] a') ?_ ?_ ?_ ?_ ⟨B98, Only.refl _ _, rfl⟩ ?_ ?_ ?_ ?_
      · rintro pre W W' ⟨Bq, hC, hpre0⟩ hT; exact ⟨Bq.turn hT, hC.turn hT (Nat.le_refl _), hpre0⟩
      · rintro c pre W W' (⟨rfl, Bq, hC, hpne⟩) hT
        exact ⟨rfl, Bq.turn hT, hC.turn hT (Nat.le_refl _), hpne⟩
      · exact fun _ _ _ _ _ h _ => h
      · rintro pre W W' ⟨Bq, hC, hpre0⟩ hN; exact ⟨Bq.new hN, hC.trNew hN, hpre0⟩
      · skip
        rintro l pre x W K ⟨Bq, hC, hpre0⟩ hK a fr
        have hF := Only.refl (fun _ => False) W
        refine wpIn_skip ?_
        exact hK _ _ hF (fr.sub ⟨rfl, rfl, rfl, rfl, rfl, rfl, rfl, rfl, rfl, rfl, rfl, rfl, rfl, rfl, rfl, rfl, rfl, rfl, rfl, rfl, rfl, rfl, rfl, rfl, rfl, rfl, rfl, rfl, rfl, rfl, rfl, rfl, rfl, rfl, rfl, rfl, rfl, rfl, rfl, rfl, rfl, rfl, rfl, rfl, rfl, rfl, rfl, rfl, rfl, rfl, rfl, rfl, rfl, rfl, rfl, rfl, rfl, rfl, rfl, rfl, rfl, trivial⟩)
      · skip
        rintro lq pre x a W ⟨Bq, hC, hpre0⟩ fr hlen
        have cl_b95 := Bq.cells
        have hF := Only.refl (fun k => k = b95) W
        have hcl : ∀ k, k < W.heap.size → (fun k => k = b95) k → (fun k => k = b95 ∨ w100.heap.size ≤ k) k ∧ ∃ o : Obj, W.heap[k]? = some o ∧ o.isCells = true := by
          rintro k _ (rfl)
          exact ⟨Or.inl rfl, cl_b95⟩
        have hSS : ∀ k, k < w100.heap.size → (fun k => k = b95) k → (fun k => k = b95) k := by
          rintro k hk (rfl)
          exact rfl
        refine wpIn_block ?_
        refine wpIn_seq ?_
        refine fxr_region (by kernel_rfl) (by rintro ⟨_, _, h⟩; exact h) ?_  -- region 20
        refine fx_val (v := .int .i64 0) fr rfl rfl (by first | decide | simp) (x_load1 pl3 rfl (fr.ev rfl) (Bq.cell 0 rfl)) ?_
        clear fr a; intro a fr
        refine fx_val (v := .int .i64 1) fr rfl rfl (by first | decide | simp) (x_add rfl (fr.ev rfl) rfl rfl) ?_
        clear fr a; intro a fr
        refine fx_store1 sz3 rfl rfl rfl (fr.ev rfl) (fr.ev rfl) rfl Bq (show 0 < 1 by decide) (cs' := #[.int .i64 1]) rfl fun w102 hO103 hBq => ?_
        replace hF := hF.loc hO103 (.inl (rfl))
        replace Bq := hBq
        clear hBq
        refine wpList_nil ?_
        refine fx_next ?_
        refine wpIn_exit ?_
        refine fx_xb (by decide) ?_
        exact ⟨⟨_, hF, hcl⟩, ⟨rfl, Bq, hC.trans hF hSS, (by simp)⟩⟩
      · skip
        rintro D104 W1 hD ⟨Bq, hC, hpre0⟩ hD_D104 a fr
        have g_D104 := Nat.le_trans hF.size hD
        have nem_D104_D94 : D104 ≠ D94 := (by have := hD_D94.lt; omega)
        replace hV := hV.only hC (Apart.ne1 ap_P_b95)
        replace B4 := B4.only hC (by first | exact ne_b1_b95 | exact ne_b95_b1.symm | (show ¬ b1 = b95; omega))
        replace hW17 := hW17.only hC (Apart.ne1 ap_V14_b95)
        replace B27 := B27.only hC (by first | exact ne_b24_b95 | exact ne_b95_b24.symm | (show ¬ b24 = b95; omega))
        replace H33 := H33.only hC (ne1P ap_Fp32_b95)
        replace Bn38 := Bn38.only hC (by first | exact ne_bn37_b95 | exact ne_b95_bn37.symm | (show ¬ bn37 = b95; omega))
        replace H41 := H41.only hC (ne1P ap_Fp40_b95)
        replace V58 := V58.only hC (Apart.ne1 ap_A56_b95)
        replace B52 := B52.only hC (by first | exact ne_b49_b95 | exact ne_b95_b49.symm | (show ¬ b49 = b95; omega))
        replace H65 := H65.only hC (ne1P ap_Fp64_b95)
        replace Bo := Bo.only hC (by first | exact ne_b69_b95 | exact ne_b95_b69.symm | (show ¬ b69 = b95; omega))
        replace Oc := Oc.only hC (Apart.ne1 ap_A_b95)
        replace hD_D94 := hD_D94.only hC (by first | exact ne_D94_b95 | exact ne_b95_D94.symm | (show ¬ D94 = b95; omega))
        replace hF := hF.loc hC (.inr g_b95)
        have ne_b1_D104 := B4.mark hD_D104
        have ne_b24_D104 := B27.mark hD_D104
        have ne_bn37_D104 := Bn38.mark hD_D104
        have ne_b49_D104 := B52.mark hD_D104
        have ne_b69_D104 := Bo.mark hD_D104
        have ap_A_D104 := Oc.mark hD_D104
        have ne_b95_D104 := Bq.mark hD_D104
        have hmin := min_none hpre0
        refine fx_blk ?_
        refine fx_next ?_
        refine wp_seq ?_
        refine fx_heldT (n := 5) (k := 5) (fun w => View actE w P cp la ∧ Blk w b1 57 (actE.arr q) ∧ View lnE w V14 vc15 L13 ∧ Blk w b24 28 (#[.int .i64 ((n : Nat) : Int), .int .i64 ways, .slice V14 L13.length vc15]) ∧ LinesAt w Fp32 b31 n ways L13 ∧ Blk w bn37 25 #[.pointer (some ⟨b39, 0, none⟩)] ∧ LinesAt w Fp40 b39 n ways L13 ∧ View lnE w A56 cap57 (putL n ways L13 q.ln) ∧ Blk w b49 28 (#[.int .i64 ((n : Nat) : Int), .int .i64 ways, .slice A56 ((putL n ways L13 q.ln).length) cap57]) ∧ LinesAt w Fp64 b11 n ways (putL n ways L13 q.ln) ∧ Blk w b69 26 #[.slice A ((allL n L13).length) cap] ∧ Own lnE w A cap (allL n L13) ∧ MarkAt w D94 ∧ Blk w b95 3 #[.int .i64 0] ∧ MarkAt w D104 ∧ True) (by kernel_rfl) (by kernel_rfl) rfl ?_  -- region 21
        intro w105 hN106
        replace hV := hV.new hN106
        replace B4 := B4.new hN106
        replace hW17 := hW17.new hN106
        replace B27 := B27.new hN106
        replace H33 := H33.new hN106
        replace Bn38 := Bn38.new hN106
        replace H41 := H41.new hN106
        replace V58 := V58.new hN106
        replace B52 := B52.new hN106
        replace H65 := H65.new hN106
        replace Bo := Bo.new hN106
        replace Oc := Oc.new hN106
        replace hD_D94 := hD_D94.new hN106
        replace Bq := Bq.new hN106
        replace hD_D104 := hD_D104.new hN106
        replace hF := hF.trNew hN106
        refine fx_take (i := 0) (v := .agg (#[.int .i64 ((n : Nat) : Int), .int .i64 ways, .slice A56 ((putL n ways L13 q.ln).length) cap57])) fr rfl (by kernel_rfl) rfl rfl (by first | decide | simp) (fun _ _ _ h => panic_put (fn := Try.f9) (d := 88) (by decide) h) (fun _ ⟨hV, B4, hW17, B27, H33, Bn38, H41, V58, B52, H65, Bo, Oc, hD_D94, Bq, hD_D104, _⟩ => x_loadS ag28 rfl (fr.ev rfl) rfl B52.range) ⟨hV, B4, hW17, B27, H33, Bn38, H41, V58, B52, H65, Bo, Oc, hD_D94, Bq, hD_D104, trivial⟩ ?_
        clear fr a; intro a fr
        refine fx_take (i := 2) (v := .agg (#[.int .i64 ((n : Nat) : Int), .int .i64 ways, .slice V14 L13.length vc15])) fr rfl (by kernel_rfl) rfl rfl (by first | decide | simp) (fun _ _ _ h => panic_put (fn := Try.f9) (d := 90) (by decide) h) (fun _ ⟨hV, B4, hW17, B27, H33, Bn38, H41, V58, B52, H65, Bo, Oc, hD_D94, Bq, hD_D104, _⟩ => x_loadS ag28 rfl (fr.ev rfl) rfl B27.range) ⟨hV, B4, hW17, B27, H33, Bn38, H41, V58, B52, H65, Bo, Oc, hD_D94, Bq, hD_D104, trivial⟩ ?_
        clear fr a; intro a fr
        refine fx_one (i := 1) (by kernel_rfl) (fx_op rfl ?_)
        refine fx_call fr rfl rfl (by first | decide | simp) (x_call (vs := [.agg (#[.int .i64 ((n : Nat) : Int), .int .i64 ways, .slice A56 ((putL n ways L13 q.ln).length) cap57])]) rfl rfl ⟨(fr.ev rfl), trivial⟩ Try.func30 nm30 rfl) (rall_c (n := n) (ways := ways) (L := putL n ways L13 q.ln) (V58) (by first | omega | decide) (by omega)) ?_
        clear fr a
        rintro v w111 ⟨A107, cap108, rfl, O109, hA110, hN112⟩ a fr
        have ap2_P_A107 : Apart2 P A107 := (new_apart2 hA110 fun _ hg => hV.lt hg).symm
        have ap_A107_b1 : Apart A107 b1 := new_apart hA110 B4.lt
        have ap2_V14_A107 : Apart2 V14 A107 := (new_apart2 hA110 fun _ hg => hW17.lt hg).symm
        have ap_A107_b24 : Apart A107 b24 := new_apart hA110 B27.lt
        have ap2_Fp32_A107 : ∀ k, Fp32 k → inA A107 k → False := symP (new_apart2P hA110 fun _ hg => H33.lt hg)
        have ap_A107_bn37 : Apart A107 bn37 := new_apart hA110 Bn38.lt
        have ap2_Fp40_A107 : ∀ k, Fp40 k → inA A107 k → False := symP (new_apart2P hA110 fun _ hg => H41.lt hg)
        have ap2_A56_A107 : Apart2 A56 A107 := (new_apart2 hA110 fun _ hg => V58.lt hg).symm
        have ap_A107_b49 : Apart A107 b49 := new_apart hA110 B52.lt
        have ap2_Fp64_A107 : ∀ k, Fp64 k → inA A107 k → False := symP (new_apart2P hA110 fun _ hg => H65.lt hg)
        have ap_A107_b69 : Apart A107 b69 := new_apart hA110 Bo.lt
        have ap2_A_A107 : Apart2 A A107 := (new_apart2 hA110 fun _ hg => Oc.lt hg).symm
        have ap_A107_D94 : Apart A107 D94 := new_apart hA110 hD_D94.lt
        have ap_A107_b95 : Apart A107 b95 := new_apart hA110 Bq.lt
        have ap_A107_D104 : Apart A107 D104 := new_apart hA110 hD_D104.lt
        have gA_A107 := gA_new hF hA110
        replace hV := hV.new hN112
        replace B4 := B4.new hN112
        replace hW17 := hW17.new hN112
        replace B27 := B27.new hN112
        replace H33 := H33.new hN112
        replace Bn38 := Bn38.new hN112
        replace H41 := H41.new hN112
        replace V58 := V58.new hN112
        replace B52 := B52.new hN112
        replace H65 := H65.new hN112
        replace Bo := Bo.new hN112
        replace Oc := Oc.new hN112
        replace hD_D94 := hD_D94.new hN112
        replace Bq := Bq.new hN112
        replace hD_D104 := hD_D104.new hN112
        replace hF := hF.trNew hN112
        refine wpList_nil ?_
        refine ⟨⟨hV, B4, hW17, B27, H33, Bn38, H41, V58, B52, H65, Bo, Oc, hD_D94, Bq, hD_D104, trivial⟩, ?_⟩
        refine fx_one (i := 3) (by kernel_rfl) (fx_op rfl ?_)
        refine fx_call fr rfl rfl (by first | decide | simp) (x_call (vs := [.agg (#[.int .i64 ((n : Nat) : Int), .int .i64 ways, .slice V14 L13.length vc15])]) rfl rfl ⟨(fr.ev rfl), trivial⟩ Try.func30 nm30 rfl) (rall_c (n := n) (ways := ways) (L := L13) (hW17) (by first | omega | decide) (by omega)) ?_
        clear fr a
        rintro v w117 ⟨A113, cap114, rfl, O115, hA116, hN118⟩ a fr
        have ap2_P_A113 : Apart2 P A113 := (new_apart2 hA116 fun _ hg => hV.lt hg).symm
        have ap_A113_b1 : Apart A113 b1 := new_apart hA116 B4.lt
        have ap2_V14_A113 : Apart2 V14 A113 := (new_apart2 hA116 fun _ hg => hW17.lt hg).symm
        have ap_A113_b24 : Apart A113 b24 := new_apart hA116 B27.lt
        have ap2_Fp32_A113 : ∀ k, Fp32 k → inA A113 k → False := symP (new_apart2P hA116 fun _ hg => H33.lt hg)
        have ap_A113_bn37 : Apart A113 bn37 := new_apart hA116 Bn38.lt
        have ap2_Fp40_A113 : ∀ k, Fp40 k → inA A113 k → False := symP (new_apart2P hA116 fun _ hg => H41.lt hg)
        have ap2_A56_A113 : Apart2 A56 A113 := (new_apart2 hA116 fun _ hg => V58.lt hg).symm
        have ap_A113_b49 : Apart A113 b49 := new_apart hA116 B52.lt
        have ap2_Fp64_A113 : ∀ k, Fp64 k → inA A113 k → False := symP (new_apart2P hA116 fun _ hg => H65.lt hg)
        have ap_A113_b69 : Apart A113 b69 := new_apart hA116 Bo.lt
        have ap2_A_A113 : Apart2 A A113 := (new_apart2 hA116 fun _ hg => Oc.lt hg).symm
        have ap_A113_D94 : Apart A113 D94 := new_apart hA116 hD_D94.lt
        have ap_A113_b95 : Apart A113 b95 := new_apart hA116 Bq.lt
        have ap_A113_D104 : Apart A113 D104 := new_apart hA116 hD_D104.lt
        have ap2_A107_A113 : Apart2 A107 A113 := (new_apart2 hA116 fun _ hg => O109.lt hg).symm
        have gA_A113 := gA_new hF hA116
        replace hV := hV.new hN118
        replace B4 := B4.new hN118
        replace hW17 := hW17.new hN118
        replace B27 := B27.new hN118
        replace H33 := H33.new hN118
        replace Bn38 := Bn38.new hN118
        replace H41 := H41.new hN118
        replace V58 := V58.new hN118
        replace B52 := B52.new hN118
        replace H65 := H65.new hN118
        replace Bo := Bo.new hN118
        replace Oc := Oc.new hN118
        replace hD_D94 := hD_D94.new hN118
        replace Bq := Bq.new hN118
        replace hD_D104 := hD_D104.new hN118
        replace O109 := O109.new hN118
        replace hF := hF.trNew hN118
        refine wpList_nil ?_
        refine ⟨⟨hV, B4, hW17, B27, H33, Bn38, H41, V58, B52, H65, Bo, Oc, hD_D94, Bq, hD_D104, trivial⟩, ?_⟩
        refine fx_one (i := 4) (by kernel_rfl) (fx_op rfl ?_)
        refine fx_call fr rfl rfl (by first | decide | simp) (x_call (vs := [.slice A107 ((allL n (putL n ways L13 q.ln)).length) cap108, .slice A113 ((allL n L13).length) cap114]) rfl rfl ⟨(fr.ev rfl), (fr.ev rfl), trivial⟩ Try.func29 nm29 rfl) (rsame_c (la := allL n (putL n ways L13 q.ln)) (lb := allL n L13) (O109.view) (O115.view)) ?_
        clear fr a
        rintro v w119 ⟨rfl, hN120⟩ a fr
        replace hV := hV.new hN120
        replace B4 := B4.new hN120
        replace hW17 := hW17.new hN120
        replace B27 := B27.new hN120
        replace H33 := H33.new hN120
        replace Bn38 := Bn38.new hN120
        replace H41 := H41.new hN120
        replace V58 := V58.new hN120
        replace B52 := B52.new hN120
        replace H65 := H65.new hN120
        replace Bo := Bo.new hN120
        replace Oc := Oc.new hN120
        replace hD_D94 := hD_D94.new hN120
        replace Bq := Bq.new hN120
        replace hD_D104 := hD_D104.new hN120
        replace O109 := O109.new hN120
        replace O115 := O115.new hN120
        replace hF := hF.trNew hN120
        refine wpList_nil ?_
        refine ⟨⟨hV, B4, hW17, B27, H33, Bn38, H41, V58, B52, H65, Bo, Oc, hD_D94, Bq, hD_D104, trivial⟩, ?_⟩
        refine fx_hdone (by kernel_rfl) ?_
        refine fx_tail ?_
        refine fx_val (v := .bool (decide (allL n (putL n ways L13 q.ln) = allL n L13))) fr rfl rfl (by first | decide | simp) (x_assign rfl (fr.ev rfl)) ?_
        clear fr a; intro a fr
        refine wpList_nil ?_
        refine fx_next ?_
        refine wp_seq ?_
        refine wp_region_lit ?_  -- region 22
        refine fx_val (v := .int .i64 ((n : Nat) : Int)) fr rfl rfl (by first | decide | simp) (x_move rfl (fr.ev rfl)) ?_
        clear fr a; intro a fr
        refine fx_val (v := .int .i64 ways) fr rfl rfl (by first | decide | simp) (x_move rfl (fr.ev rfl)) ?_
        clear fr a; intro a fr
        refine fx_val (v := .int .i64 (Int.tmod ways 8)) fr rfl rfl (by first | decide | simp) (x_rem rfl (fr.ev rfl) rfl (by decide) rfl) ?_
        clear fr a; intro a fr
        refine fx_val (v := .int .i64 (Int.tmod ways 8 + 1)) fr rfl rfl (by first | decide | simp) (x_add rfl (fr.ev rfl) rfl (i64w (r := Int.tmod ways 8 + 1) (by omega) (by omega))) ?_
        clear fr a; intro a fr
        refine fx_call fr rfl rfl (by first | decide | simp) (x_call (vs := [.int .i64 ((n : Nat) : Int), .int .i64 (Int.tmod ways 8 + 1)]) rfl rfl ⟨(fr.ev rfl), (fr.ev rfl), trivial⟩ Try.func18 nm18 rfl) (new_yes n (Int.tmod ways 8 + 1) _ hr2) ?_
        clear fr a
        rintro v w125 ⟨b121, Fp122, rfl, H123, hb124, hN126⟩ a fr
        have ap2_P_Fp122 : ∀ k, inA P k → Fp122 k → False := symP (new_apart2P hb124 fun _ hg => hV.lt hg)
        have ap_Fp122_b1 : ¬ Fp122 b1 := new_apartP hb124 B4.lt
        have ap2_V14_Fp122 : ∀ k, inA V14 k → Fp122 k → False := symP (new_apart2P hb124 fun _ hg => hW17.lt hg)
        have ap_Fp122_b24 : ¬ Fp122 b24 := new_apartP hb124 B27.lt
        have ap2_Fp32_Fp122 : ∀ k, Fp32 k → Fp122 k → False := symP (new_apart2P hb124 fun _ hg => H33.lt hg)
        have ap_Fp122_bn37 : ¬ Fp122 bn37 := new_apartP hb124 Bn38.lt
        have ap2_Fp40_Fp122 : ∀ k, Fp40 k → Fp122 k → False := symP (new_apart2P hb124 fun _ hg => H41.lt hg)
        have ap2_A56_Fp122 : ∀ k, inA A56 k → Fp122 k → False := symP (new_apart2P hb124 fun _ hg => V58.lt hg)
        have ap_Fp122_b49 : ¬ Fp122 b49 := new_apartP hb124 B52.lt
        have ap2_Fp64_Fp122 : ∀ k, Fp64 k → Fp122 k → False := symP (new_apart2P hb124 fun _ hg => H65.lt hg)
        have ap_Fp122_b69 : ¬ Fp122 b69 := new_apartP hb124 Bo.lt
        have ap2_A_Fp122 : ∀ k, inA A k → Fp122 k → False := symP (new_apart2P hb124 fun _ hg => Oc.lt hg)
        have ap_Fp122_D94 : ¬ Fp122 D94 := new_apartP hb124 hD_D94.lt
        have ap_Fp122_b95 : ¬ Fp122 b95 := new_apartP hb124 Bq.lt
        have ap_Fp122_D104 : ¬ Fp122 D104 := new_apartP hb124 hD_D104.lt
        have ap2_A107_Fp122 : ∀ k, inA A107 k → Fp122 k → False := symP (new_apart2P hb124 fun _ hg => O109.lt hg)
        have ap2_A113_Fp122 : ∀ k, inA A113 k → Fp122 k → False := symP (new_apart2P hb124 fun _ hg => O115.lt hg)
        have gA_Fp122 := gA_newP hF hb124
        replace hV := hV.new hN126
        replace B4 := B4.new hN126
        replace hW17 := hW17.new hN126
        replace B27 := B27.new hN126
        replace H33 := H33.new hN126
        replace Bn38 := Bn38.new hN126
        replace H41 := H41.new hN126
        replace V58 := V58.new hN126
        replace B52 := B52.new hN126
        replace H65 := H65.new hN126
        replace Bo := Bo.new hN126
        replace Oc := Oc.new hN126
        replace hD_D94 := hD_D94.new hN126
        replace Bq := Bq.new hN126
        replace hD_D104 := hD_D104.new hN126
        replace O109 := O109.new hN126
        replace O115 := O115.new hN126
        replace hF := hF.trNew hN126
        refine fx_val (v := .tuple #[.pointer (some ⟨b121, 0, none⟩), .int .i64 0]) fr rfl rfl (by first | decide | simp) (x_move rfl (fr.ev rfl)) ?_
        clear fr a; intro a fr
        refine fx_val (v := .pointer (some ⟨b121, 0, none⟩)) fr rfl rfl (by first | decide | simp) (x_extract rfl (fr.ev rfl) rfl) ?_
        clear fr a; intro a fr
        refine fx_val (v := .int .i64 0) fr rfl rfl (by first | decide | simp) (x_extract rfl (fr.ev rfl) rfl) ?_
        clear fr a; intro a fr
        refine fx_val (v := .pointer (some ⟨b121, 0, none⟩)) fr rfl rfl (by first | decide | simp) (x_assign rfl (fr.ev rfl)) ?_
        clear fr a; intro a fr
        refine fx_val (v := .int .i64 0) fr rfl rfl (by first | decide | simp) (x_assign rfl (fr.ev rfl)) ?_
        clear fr a; intro a fr
        refine wpList_nil ?_
        refine fx_next ?_
        refine wp_seq ?_
        refine wp_region_lit ?_  -- region 23
        refine fx_val (v := .int .i64 ((n : Nat) : Int)) fr rfl rfl (by first | decide | simp) (x_move rfl (fr.ev rfl)) ?_
        clear fr a; intro a fr
        refine fx_val (v := .int .i64 ways) fr rfl rfl (by first | decide | simp) (x_move rfl (fr.ev rfl)) ?_
        clear fr a; intro a fr
        refine fx_call fr rfl rfl (by first | decide | simp) (x_call (vs := [.int .i64 ((n : Nat) : Int), .int .i64 ways]) rfl rfl ⟨(fr.ev rfl), (fr.ev rfl), trivial⟩ Try.func18 nm18 rfl) (new_yes n ways _ hr) ?_
        clear fr a
        rintro v w131 ⟨b127, Fp128, rfl, H129, hb130, hN132⟩ a fr
        have ap2_P_Fp128 : ∀ k, inA P k → Fp128 k → False := symP (new_apart2P hb130 fun _ hg => hV.lt hg)
        have ap_Fp128_b1 : ¬ Fp128 b1 := new_apartP hb130 B4.lt
        have ap2_V14_Fp128 : ∀ k, inA V14 k → Fp128 k → False := symP (new_apart2P hb130 fun _ hg => hW17.lt hg)
        have ap_Fp128_b24 : ¬ Fp128 b24 := new_apartP hb130 B27.lt
        have ap2_Fp32_Fp128 : ∀ k, Fp32 k → Fp128 k → False := symP (new_apart2P hb130 fun _ hg => H33.lt hg)
        have ap_Fp128_bn37 : ¬ Fp128 bn37 := new_apartP hb130 Bn38.lt
        have ap2_Fp40_Fp128 : ∀ k, Fp40 k → Fp128 k → False := symP (new_apart2P hb130 fun _ hg => H41.lt hg)
        have ap2_A56_Fp128 : ∀ k, inA A56 k → Fp128 k → False := symP (new_apart2P hb130 fun _ hg => V58.lt hg)
        have ap_Fp128_b49 : ¬ Fp128 b49 := new_apartP hb130 B52.lt
        have ap2_Fp64_Fp128 : ∀ k, Fp64 k → Fp128 k → False := symP (new_apart2P hb130 fun _ hg => H65.lt hg)
        have ap_Fp128_b69 : ¬ Fp128 b69 := new_apartP hb130 Bo.lt
        have ap2_A_Fp128 : ∀ k, inA A k → Fp128 k → False := symP (new_apart2P hb130 fun _ hg => Oc.lt hg)
        have ap_Fp128_D94 : ¬ Fp128 D94 := new_apartP hb130 hD_D94.lt
        have ap_Fp128_b95 : ¬ Fp128 b95 := new_apartP hb130 Bq.lt
        have ap_Fp128_D104 : ¬ Fp128 D104 := new_apartP hb130 hD_D104.lt
        have ap2_A107_Fp128 : ∀ k, inA A107 k → Fp128 k → False := symP (new_apart2P hb130 fun _ hg => O109.lt hg)
        have ap2_A113_Fp128 : ∀ k, inA A113 k → Fp128 k → False := symP (new_apart2P hb130 fun _ hg => O115.lt hg)
        have ap2_Fp122_Fp128 : ∀ k, Fp122 k → Fp128 k → False := symP (new_apart2P hb130 fun _ hg => H123.lt hg)
        have gA_Fp128 := gA_newP hF hb130
        replace hV := hV.new hN132
        replace B4 := B4.new hN132
        replace hW17 := hW17.new hN132
        replace B27 := B27.new hN132
        replace H33 := H33.new hN132
        replace Bn38 := Bn38.new hN132
        replace H41 := H41.new hN132
        replace V58 := V58.new hN132
        replace B52 := B52.new hN132
        replace H65 := H65.new hN132
        replace Bo := Bo.new hN132
        replace Oc := Oc.new hN132
        replace hD_D94 := hD_D94.new hN132
        replace Bq := Bq.new hN132
        replace hD_D104 := hD_D104.new hN132
        replace O109 := O109.new hN132
        replace O115 := O115.new hN132
        replace H123 := H123.new hN132
        replace hF := hF.trNew hN132
        refine fx_val (v := .tuple #[.pointer (some ⟨b127, 0, none⟩), .int .i64 0]) fr rfl rfl (by first | decide | simp) (x_move rfl (fr.ev rfl)) ?_
        clear fr a; intro a fr
        refine fx_val (v := .pointer (some ⟨b127, 0, none⟩)) fr rfl rfl (by first | decide | simp) (x_extract rfl (fr.ev rfl) rfl) ?_
        clear fr a; intro a fr
        refine fx_val (v := .int .i64 0) fr rfl rfl (by first | decide | simp) (x_extract rfl (fr.ev rfl) rfl) ?_
        clear fr a; intro a fr
        refine fx_val (v := .pointer (some ⟨b127, 0, none⟩)) fr rfl rfl (by first | decide | simp) (x_assign rfl (fr.ev rfl)) ?_
        clear fr a; intro a fr
        refine fx_val (v := .int .i64 0) fr rfl rfl (by first | decide | simp) (x_assign rfl (fr.ev rfl)) ?_
        clear fr a; intro a fr
        refine wpList_nil ?_
        refine fx_next ?_
        refine wp_seq ?_
        refine fx_heldT (n := 49) (k := 49) (fun w => View actE w P cp la ∧ Blk w b1 57 (actE.arr q) ∧ View lnE w V14 vc15 L13 ∧ Blk w b24 28 (#[.int .i64 ((n : Nat) : Int), .int .i64 ways, .slice V14 L13.length vc15]) ∧ LinesAt w Fp32 b31 n ways L13 ∧ Blk w bn37 25 #[.pointer (some ⟨b39, 0, none⟩)] ∧ LinesAt w Fp40 b39 n ways L13 ∧ View lnE w A56 cap57 (putL n ways L13 q.ln) ∧ Blk w b49 28 (#[.int .i64 ((n : Nat) : Int), .int .i64 ways, .slice A56 ((putL n ways L13 q.ln).length) cap57]) ∧ LinesAt w Fp64 b11 n ways (putL n ways L13 q.ln) ∧ Blk w b69 26 #[.slice A ((allL n L13).length) cap] ∧ Own lnE w A cap (allL n L13) ∧ MarkAt w D94 ∧ Blk w b95 3 #[.int .i64 0] ∧ MarkAt w D104 ∧ Own lnE w A107 cap108 (allL n (putL n ways L13 q.ln)) ∧ Own lnE w A113 cap114 (allL n L13) ∧ LinesAt w Fp122 b121 n (Int.tmod ways 8 + 1) ([]) ∧ LinesAt w Fp128 b127 n ways ([]) ∧ True) (by kernel_rfl) (by kernel_rfl) rfl ?_  -- region 24
        intro w133 hN134
        replace hV := hV.new hN134
        replace B4 := B4.new hN134
        replace hW17 := hW17.new hN134
        replace B27 := B27.new hN134
        replace H33 := H33.new hN134
        replace Bn38 := Bn38.new hN134
        replace H41 := H41.new hN134
        replace V58 := V58.new hN134
        replace B52 := B52.new hN134
        replace H65 := H65.new hN134
        replace Bo := Bo.new hN134
        replace Oc := Oc.new hN134
        replace hD_D94 := hD_D94.new hN134
        replace Bq := Bq.new hN134
        replace hD_D104 := hD_D104.new hN134
        replace O109 := O109.new hN134
        replace O115 := O115.new hN134
        replace H123 := H123.new hN134
        replace H129 := H129.new hN134
        replace hF := hF.trNew hN134
        refine fx_take (i := 0) (v := .slice A ((allL n L13).length) cap) fr rfl (by kernel_rfl) rfl rfl (by first | decide | simp) (fun _ _ _ h => panic_put (fn := Try.f9) (d := 107) (by decide) h) (fun _ ⟨hV, B4, hW17, B27, H33, Bn38, H41, V58, B52, H65, Bo, Oc, hD_D94, Bq, hD_D104, O109, O115, H123, H129, _⟩ => x_load1 pl26 rfl (fr.ev rfl) (Bo.cell 0 rfl)) ⟨hV, B4, hW17, B27, H33, Bn38, H41, V58, B52, H65, Bo, Oc, hD_D94, Bq, hD_D104, O109, O115, H123, H129, trivial⟩ ?_
        clear fr a; intro a fr
        refine fx_take (i := 1) (v := .agg (#[.int .i64 ((n : Nat) : Int), .int .i64 ways, .slice V14 L13.length vc15])) fr rfl (by kernel_rfl) rfl rfl (by first | decide | simp) (fun _ _ _ h => panic_put (fn := Try.f9) (d := 108) (by decide) h) (fun _ ⟨hV, B4, hW17, B27, H33, Bn38, H41, V58, B52, H65, Bo, Oc, hD_D94, Bq, hD_D104, O109, O115, H123, H129, _⟩ => x_loadS ag28 rfl (fr.ev rfl) rfl B27.range) ⟨hV, B4, hW17, B27, H33, Bn38, H41, V58, B52, H65, Bo, Oc, hD_D94, Bq, hD_D104, O109, O115, H123, H129, trivial⟩ ?_
        clear fr a; intro a fr
        refine fx_one (i := 2) (by kernel_rfl) (fx_op rfl ?_)
        refine fx_call fr rfl rfl (by first | decide | simp) (x_call (vs := [.agg (#[.int .i64 ((n : Nat) : Int), .int .i64 ways, .slice V14 L13.length vc15])]) rfl rfl ⟨(fr.ev rfl), trivial⟩ Try.func30 nm30 rfl) (rall_c (n := n) (ways := ways) (L := L13) (hW17) (by first | omega | decide) (by omega)) ?_
        clear fr a
        rintro v w139 ⟨A135, cap136, rfl, O137, hA138, hN140⟩ a fr
        have ap2_P_A135 : Apart2 P A135 := (new_apart2 hA138 fun _ hg => hV.lt hg).symm
        have ap_A135_b1 : Apart A135 b1 := new_apart hA138 B4.lt
        have ap2_V14_A135 : Apart2 V14 A135 := (new_apart2 hA138 fun _ hg => hW17.lt hg).symm
        have ap_A135_b24 : Apart A135 b24 := new_apart hA138 B27.lt
        have ap2_Fp32_A135 : ∀ k, Fp32 k → inA A135 k → False := symP (new_apart2P hA138 fun _ hg => H33.lt hg)
        have ap_A135_bn37 : Apart A135 bn37 := new_apart hA138 Bn38.lt
        have ap2_Fp40_A135 : ∀ k, Fp40 k → inA A135 k → False := symP (new_apart2P hA138 fun _ hg => H41.lt hg)
        have ap2_A56_A135 : Apart2 A56 A135 := (new_apart2 hA138 fun _ hg => V58.lt hg).symm
        have ap_A135_b49 : Apart A135 b49 := new_apart hA138 B52.lt
        have ap2_Fp64_A135 : ∀ k, Fp64 k → inA A135 k → False := symP (new_apart2P hA138 fun _ hg => H65.lt hg)
        have ap_A135_b69 : Apart A135 b69 := new_apart hA138 Bo.lt
        have ap2_A_A135 : Apart2 A A135 := (new_apart2 hA138 fun _ hg => Oc.lt hg).symm
        have ap_A135_D94 : Apart A135 D94 := new_apart hA138 hD_D94.lt
        have ap_A135_b95 : Apart A135 b95 := new_apart hA138 Bq.lt
        have ap_A135_D104 : Apart A135 D104 := new_apart hA138 hD_D104.lt
        have ap2_A107_A135 : Apart2 A107 A135 := (new_apart2 hA138 fun _ hg => O109.lt hg).symm
        have ap2_A113_A135 : Apart2 A113 A135 := (new_apart2 hA138 fun _ hg => O115.lt hg).symm
        have ap2_Fp122_A135 : ∀ k, Fp122 k → inA A135 k → False := symP (new_apart2P hA138 fun _ hg => H123.lt hg)
        have ap2_Fp128_A135 : ∀ k, Fp128 k → inA A135 k → False := symP (new_apart2P hA138 fun _ hg => H129.lt hg)
        have gA_A135 := gA_new hF hA138
        replace hV := hV.new hN140
        replace B4 := B4.new hN140
        replace hW17 := hW17.new hN140
        replace B27 := B27.new hN140
        replace H33 := H33.new hN140
        replace Bn38 := Bn38.new hN140
        replace H41 := H41.new hN140
        replace V58 := V58.new hN140
        replace B52 := B52.new hN140
        replace H65 := H65.new hN140
        replace Bo := Bo.new hN140
        replace Oc := Oc.new hN140
        replace hD_D94 := hD_D94.new hN140
        replace Bq := Bq.new hN140
        replace hD_D104 := hD_D104.new hN140
        replace O109 := O109.new hN140
        replace O115 := O115.new hN140
        replace H123 := H123.new hN140
        replace H129 := H129.new hN140
        replace hF := hF.trNew hN140
        refine wpList_nil ?_
        refine ⟨⟨hV, B4, hW17, B27, H33, Bn38, H41, V58, B52, H65, Bo, Oc, hD_D94, Bq, hD_D104, O109, O115, H123, H129, trivial⟩, ?_⟩
        refine fx_one (i := 3) (by kernel_rfl) (fx_op rfl ?_)
        refine fx_call fr rfl rfl (by first | decide | simp) (x_call (vs := [.slice A ((allL n L13).length) cap, .slice A135 ((allL n L13).length) cap136]) rfl rfl ⟨(fr.ev rfl), (fr.ev rfl), trivial⟩ Try.func29 nm29 rfl) (rsame_c (la := allL n L13) (lb := allL n L13) (Oc.view) (O137.view)) ?_
        clear fr a
        rintro v w141 ⟨rfl, hN142⟩ a fr
        replace hV := hV.new hN142
        replace B4 := B4.new hN142
        replace hW17 := hW17.new hN142
        replace B27 := B27.new hN142
        replace H33 := H33.new hN142
        replace Bn38 := Bn38.new hN142
        replace H41 := H41.new hN142
        replace V58 := V58.new hN142
        replace B52 := B52.new hN142
        replace H65 := H65.new hN142
        replace Bo := Bo.new hN142
        replace Oc := Oc.new hN142
        replace hD_D94 := hD_D94.new hN142
        replace Bq := Bq.new hN142
        replace hD_D104 := hD_D104.new hN142
        replace O109 := O109.new hN142
        replace O115 := O115.new hN142
        replace H123 := H123.new hN142
        replace H129 := H129.new hN142
        replace O137 := O137.new hN142
        replace hF := hF.trNew hN142
        rw [show decide (allL n L13 = allL n L13) = true from decide_eq_true rfl] at fr
        refine wpList_nil ?_
        refine ⟨⟨hV, B4, hW17, B27, H33, Bn38, H41, V58, B52, H65, Bo, Oc, hD_D94, Bq, hD_D104, O109, O115, H123, H129, trivial⟩, ?_⟩
        refine fx_take (i := 4) (v := .bool true) fr rfl (by kernel_rfl) rfl rfl (by first | decide | simp) (fun _ _ _ h => panic_put (fn := Try.f9) (d := 111) (by decide) h) (fun _ ⟨hV, B4, hW17, B27, H33, Bn38, H41, V58, B52, H65, Bo, Oc, hD_D94, Bq, hD_D104, O109, O115, H123, H129, _⟩ => x_move rfl (fr.ev rfl)) ⟨hV, B4, hW17, B27, H33, Bn38, H41, V58, B52, H65, Bo, Oc, hD_D94, Bq, hD_D104, O109, O115, H123, H129, trivial⟩ ?_
        clear fr a; intro a fr
        refine fx_take (i := 5) (v := .int .i64 0) fr rfl (by kernel_rfl) (fr.want rfl rfl rfl) rfl (by first | decide | simp) (fun _ _ _ h => panic_put (fn := Try.f9) (d := 112) (by decide) h) (fun _ ⟨hV, B4, hW17, B27, H33, Bn38, H41, V58, B52, H65, Bo, Oc, hD_D94, Bq, hD_D104, O109, O115, H123, H129, _⟩ => x_load1 pl3 rfl (fr.ev rfl) (Bq.cell 0 rfl)) ⟨hV, B4, hW17, B27, H33, Bn38, H41, V58, B52, H65, Bo, Oc, hD_D94, Bq, hD_D104, O109, O115, H123, H129, trivial⟩ ?_
        clear fr a; intro a fr
        refine fx_take (i := 6) (v := .slice A ((allL n L13).length) cap) fr rfl (by kernel_rfl) (fr.want rfl rfl rfl) rfl (by first | decide | simp) (fun _ _ _ h => panic_put (fn := Try.f9) (d := 113) (by decide) h) (fun _ ⟨hV, B4, hW17, B27, H33, Bn38, H41, V58, B52, H65, Bo, Oc, hD_D94, Bq, hD_D104, O109, O115, H123, H129, _⟩ => x_load1 pl26 rfl (fr.ev rfl) (Bo.cell 0 rfl)) ⟨hV, B4, hW17, B27, H33, Bn38, H41, V58, B52, H65, Bo, Oc, hD_D94, Bq, hD_D104, O109, O115, H123, H129, trivial⟩ ?_
        clear fr a; intro a fr
        refine fx_take (i := 7) (v := .int .i64 (((allL n L13).length : Nat) : Int)) fr rfl (by kernel_rfl) (fr.want rfl rfl rfl) rfl (by first | decide | simp) (fun _ _ _ h => panic_put (fn := Try.f9) (d := 114) (by decide) h) (fun _ ⟨hV, B4, hW17, B27, H33, Bn38, H41, V58, B52, H65, Bo, Oc, hD_D94, Bq, hD_D104, O109, O115, H123, H129, _⟩ => x_len Try.underlying26 rfl (fr.ev rfl)) ⟨hV, B4, hW17, B27, H33, Bn38, H41, V58, B52, H65, Bo, Oc, hD_D94, Bq, hD_D104, O109, O115, H123, H129, trivial⟩ ?_
        clear fr a; intro a fr
        refine fx_one (i := 8) (by kernel_rfl) (fx_op rfl ?_)
        refine fx_val (v := .int .i64 ((min 1 ((allL n L13).length) : Nat) : Int)) fr (fr.want rfl rfl rfl) rfl (by first | decide | simp) (x_min rfl rfl (fr.ev rfl) (r := ((min 1 ((allL n L13).length) : Nat) : Int)) (by omega)) ?_
        clear fr a; intro a fr
        refine wpList_nil ?_
        refine ⟨⟨hV, B4, hW17, B27, H33, Bn38, H41, V58, B52, H65, Bo, Oc, hD_D94, Bq, hD_D104, O109, O115, H123, H129, trivial⟩, ?_⟩
        refine fx_take (i := 9) (v := .bool true) fr rfl (by kernel_rfl) (fr.want rfl rfl rfl) rfl (by first | decide | simp) (fun _ _ _ h => panic_put (fn := Try.f9) (d := 116) (by decide) h) (fun _ ⟨hV, B4, hW17, B27, H33, Bn38, H41, V58, B52, H65, Bo, Oc, hD_D94, Bq, hD_D104, O109, O115, H123, H129, _⟩ => x_eql rfl (fr.ev rfl) (fr.ev rfl) (decide_eq_true hmin)) ⟨hV, B4, hW17, B27, H33, Bn38, H41, V58, B52, H65, Bo, Oc, hD_D94, Bq, hD_D104, O109, O115, H123, H129, trivial⟩ ?_
        clear fr a; intro a fr
        refine fx_take (i := 10) (v := .bool true) fr rfl (by kernel_rfl) rfl rfl (by first | decide | simp) (fun _ _ _ h => panic_put (fn := Try.f9) (d := 117) (by decide) h) (fun _ ⟨hV, B4, hW17, B27, H33, Bn38, H41, V58, B52, H65, Bo, Oc, hD_D94, Bq, hD_D104, O109, O115, H123, H129, _⟩ => x_pick_t rfl (fr.ev rfl) (fr.ev rfl)) ⟨hV, B4, hW17, B27, H33, Bn38, H41, V58, B52, H65, Bo, Oc, hD_D94, Bq, hD_D104, O109, O115, H123, H129, trivial⟩ ?_
        clear fr a; intro a fr
        refine fx_take (i := 11) (v := .bool true) fr rfl (by kernel_rfl) rfl rfl (by first | decide | simp) (fun _ _ _ h => panic_put (fn := Try.f9) (d := 118) (by decide) h) (fun _ ⟨hV, B4, hW17, B27, H33, Bn38, H41, V58, B52, H65, Bo, Oc, hD_D94, Bq, hD_D104, O109, O115, H123, H129, _⟩ => x_move rfl (fr.ev rfl)) ⟨hV, B4, hW17, B27, H33, Bn38, H41, V58, B52, H65, Bo, Oc, hD_D94, Bq, hD_D104, O109, O115, H123, H129, trivial⟩ ?_
        clear fr a; intro a fr
        refine fx_take (i := 12) (v := .pointer (some ⟨b31, 0, none⟩)) fr rfl (by kernel_rfl) (fr.want rfl rfl rfl) rfl (by first | decide | simp) (fun _ _ _ h => panic_put (fn := Try.f9) (d := 119) (by decide) h) (fun _ ⟨hV, B4, hW17, B27, H33, Bn38, H41, V58, B52, H65, Bo, Oc, hD_D94, Bq, hD_D104, O109, O115, H123, H129, _⟩ => x_move rfl (fr.ev rfl)) ⟨hV, B4, hW17, B27, H33, Bn38, H41, V58, B52, H65, Bo, Oc, hD_D94, Bq, hD_D104, O109, O115, H123, H129, trivial⟩ ?_
        clear fr a; intro a fr
        refine fx_take (i := 13) (v := .agg (#[.int .i64 ((n : Nat) : Int), .int .i64 ways, .slice V14 L13.length vc15])) fr rfl (by kernel_rfl) (fr.want rfl rfl rfl) rfl (by first | decide | simp) (fun _ _ _ h => panic_put (fn := Try.f9) (d := 120) (by decide) h) (fun _ ⟨hV, B4, hW17, B27, H33, Bn38, H41, V58, B52, H65, Bo, Oc, hD_D94, Bq, hD_D104, O109, O115, H123, H129, _⟩ => x_loadS ag28 rfl (fr.ev rfl) rfl B27.range) ⟨hV, B4, hW17, B27, H33, Bn38, H41, V58, B52, H65, Bo, Oc, hD_D94, Bq, hD_D104, O109, O115, H123, H129, trivial⟩ ?_
        clear fr a; intro a fr
        refine fx_one (i := 14) (by kernel_rfl) (fx_op rfl ?_)
        refine fx_call fr (fr.want rfl rfl rfl) rfl (by first | decide | simp) (x_call (vs := [.pointer (some ⟨b31, 0, none⟩), .agg (#[.int .i64 ((n : Nat) : Int), .int .i64 ways, .slice V14 L13.length vc15])]) rfl rfl ⟨(fr.ev rfl), (fr.ev rfl), trivial⟩ Try.func13 nm13 rfl) (is_c H33 (hW17) (by omega)) ?_
        clear fr a
        rintro v w143 ⟨rfl, hN144⟩ a fr
        replace hV := hV.new hN144
        replace B4 := B4.new hN144
        replace hW17 := hW17.new hN144
        replace B27 := B27.new hN144
        replace H33 := H33.new hN144
        replace Bn38 := Bn38.new hN144
        replace H41 := H41.new hN144
        replace V58 := V58.new hN144
        replace B52 := B52.new hN144
        replace H65 := H65.new hN144
        replace Bo := Bo.new hN144
        replace Oc := Oc.new hN144
        replace hD_D94 := hD_D94.new hN144
        replace Bq := Bq.new hN144
        replace hD_D104 := hD_D104.new hN144
        replace O109 := O109.new hN144
        replace O115 := O115.new hN144
        replace H123 := H123.new hN144
        replace H129 := H129.new hN144
        replace O137 := O137.new hN144
        replace hF := hF.trNew hN144
        refine wpList_nil ?_
        refine ⟨⟨hV, B4, hW17, B27, H33, Bn38, H41, V58, B52, H65, Bo, Oc, hD_D94, Bq, hD_D104, O109, O115, H123, H129, trivial⟩, ?_⟩
        refine fx_take (i := 15) (v := .bool true) fr rfl (by kernel_rfl) rfl rfl (by first | decide | simp) (fun _ _ _ h => panic_put (fn := Try.f9) (d := 122) (by decide) h) (fun _ ⟨hV, B4, hW17, B27, H33, Bn38, H41, V58, B52, H65, Bo, Oc, hD_D94, Bq, hD_D104, O109, O115, H123, H129, _⟩ => x_pick_t rfl (fr.ev rfl) (fr.ev rfl)) ⟨hV, B4, hW17, B27, H33, Bn38, H41, V58, B52, H65, Bo, Oc, hD_D94, Bq, hD_D104, O109, O115, H123, H129, trivial⟩ ?_
        clear fr a; intro a fr
        refine fx_take (i := 16) (v := .bool true) fr rfl (by kernel_rfl) rfl rfl (by first | decide | simp) (fun _ _ _ h => panic_put (fn := Try.f9) (d := 123) (by decide) h) (fun _ ⟨hV, B4, hW17, B27, H33, Bn38, H41, V58, B52, H65, Bo, Oc, hD_D94, Bq, hD_D104, O109, O115, H123, H129, _⟩ => x_move rfl (fr.ev rfl)) ⟨hV, B4, hW17, B27, H33, Bn38, H41, V58, B52, H65, Bo, Oc, hD_D94, Bq, hD_D104, O109, O115, H123, H129, trivial⟩ ?_
        clear fr a; intro a fr
        refine fx_take (i := 17) (v := .pointer (some ⟨b11, 0, none⟩)) fr rfl (by kernel_rfl) (fr.want rfl rfl rfl) rfl (by first | decide | simp) (fun _ _ _ h => panic_put (fn := Try.f9) (d := 124) (by decide) h) (fun _ ⟨hV, B4, hW17, B27, H33, Bn38, H41, V58, B52, H65, Bo, Oc, hD_D94, Bq, hD_D104, O109, O115, H123, H129, _⟩ => x_move rfl (fr.ev rfl)) ⟨hV, B4, hW17, B27, H33, Bn38, H41, V58, B52, H65, Bo, Oc, hD_D94, Bq, hD_D104, O109, O115, H123, H129, trivial⟩ ?_
        clear fr a; intro a fr
        refine fx_take (i := 18) (v := .agg (#[.int .i64 ((n : Nat) : Int), .int .i64 ways, .slice A56 ((putL n ways L13 q.ln).length) cap57])) fr rfl (by kernel_rfl) (fr.want rfl rfl rfl) rfl (by first | decide | simp) (fun _ _ _ h => panic_put (fn := Try.f9) (d := 125) (by decide) h) (fun _ ⟨hV, B4, hW17, B27, H33, Bn38, H41, V58, B52, H65, Bo, Oc, hD_D94, Bq, hD_D104, O109, O115, H123, H129, _⟩ => x_loadS ag28 rfl (fr.ev rfl) rfl B52.range) ⟨hV, B4, hW17, B27, H33, Bn38, H41, V58, B52, H65, Bo, Oc, hD_D94, Bq, hD_D104, O109, O115, H123, H129, trivial⟩ ?_
        clear fr a; intro a fr
        refine fx_one (i := 19) (by kernel_rfl) (fx_op rfl ?_)
        refine fx_call fr (fr.want rfl rfl rfl) rfl (by first | decide | simp) (x_call (vs := [.pointer (some ⟨b11, 0, none⟩), .agg (#[.int .i64 ((n : Nat) : Int), .int .i64 ways, .slice A56 ((putL n ways L13 q.ln).length) cap57])]) rfl rfl ⟨(fr.ev rfl), (fr.ev rfl), trivial⟩ Try.func13 nm13 rfl) (is_c H65 (V58) (by omega)) ?_
        clear fr a
        rintro v w145 ⟨rfl, hN146⟩ a fr
        replace hV := hV.new hN146
        replace B4 := B4.new hN146
        replace hW17 := hW17.new hN146
        replace B27 := B27.new hN146
        replace H33 := H33.new hN146
        replace Bn38 := Bn38.new hN146
        replace H41 := H41.new hN146
        replace V58 := V58.new hN146
        replace B52 := B52.new hN146
        replace H65 := H65.new hN146
        replace Bo := Bo.new hN146
        replace Oc := Oc.new hN146
        replace hD_D94 := hD_D94.new hN146
        replace Bq := Bq.new hN146
        replace hD_D104 := hD_D104.new hN146
        replace O109 := O109.new hN146
        replace O115 := O115.new hN146
        replace H123 := H123.new hN146
        replace H129 := H129.new hN146
        replace O137 := O137.new hN146
        replace hF := hF.trNew hN146
        refine wpList_nil ?_
        refine ⟨⟨hV, B4, hW17, B27, H33, Bn38, H41, V58, B52, H65, Bo, Oc, hD_D94, Bq, hD_D104, O109, O115, H123, H129, trivial⟩, ?_⟩
        refine fx_take (i := 20) (v := .bool true) fr rfl (by kernel_rfl) rfl rfl (by first | decide | simp) (fun _ _ _ h => panic_put (fn := Try.f9) (d := 127) (by decide) h) (fun _ ⟨hV, B4, hW17, B27, H33, Bn38, H41, V58, B52, H65, Bo, Oc, hD_D94, Bq, hD_D104, O109, O115, H123, H129, _⟩ => x_pick_t rfl (fr.ev rfl) (fr.ev rfl)) ⟨hV, B4, hW17, B27, H33, Bn38, H41, V58, B52, H65, Bo, Oc, hD_D94, Bq, hD_D104, O109, O115, H123, H129, trivial⟩ ?_
        clear fr a; intro a fr
        refine fx_take (i := 21) (v := .bool true) fr rfl (by kernel_rfl) rfl rfl (by first | decide | simp) (fun _ _ _ h => panic_put (fn := Try.f9) (d := 128) (by decide) h) (fun _ ⟨hV, B4, hW17, B27, H33, Bn38, H41, V58, B52, H65, Bo, Oc, hD_D94, Bq, hD_D104, O109, O115, H123, H129, _⟩ => x_move rfl (fr.ev rfl)) ⟨hV, B4, hW17, B27, H33, Bn38, H41, V58, B52, H65, Bo, Oc, hD_D94, Bq, hD_D104, O109, O115, H123, H129, trivial⟩ ?_
        clear fr a; intro a fr
        refine fx_take (i := 22) (v := .pointer (some ⟨b11, 0, none⟩)) fr rfl (by kernel_rfl) (fr.want rfl rfl rfl) rfl (by first | decide | simp) (fun _ _ _ h => panic_put (fn := Try.f9) (d := 129) (by decide) h) (fun _ ⟨hV, B4, hW17, B27, H33, Bn38, H41, V58, B52, H65, Bo, Oc, hD_D94, Bq, hD_D104, O109, O115, H123, H129, _⟩ => x_move rfl (fr.ev rfl)) ⟨hV, B4, hW17, B27, H33, Bn38, H41, V58, B52, H65, Bo, Oc, hD_D94, Bq, hD_D104, O109, O115, H123, H129, trivial⟩ ?_
        clear fr a; intro a fr
        refine fx_take (i := 23) (v := .pointer (some ⟨b31, 0, none⟩)) fr rfl (by kernel_rfl) (fr.want rfl rfl rfl) rfl (by first | decide | simp) (fun _ _ _ h => panic_put (fn := Try.f9) (d := 130) (by decide) h) (fun _ ⟨hV, B4, hW17, B27, H33, Bn38, H41, V58, B52, H65, Bo, Oc, hD_D94, Bq, hD_D104, O109, O115, H123, H129, _⟩ => x_move rfl (fr.ev rfl)) ⟨hV, B4, hW17, B27, H33, Bn38, H41, V58, B52, H65, Bo, Oc, hD_D94, Bq, hD_D104, O109, O115, H123, H129, trivial⟩ ?_
        clear fr a; intro a fr
        refine fx_take (i := 25) (v := .bool (decide (allL n (putL n ways L13 q.ln) = allL n L13))) fr rfl (by kernel_rfl) (fr.want rfl rfl rfl) rfl (by first | decide | simp) (fun _ _ _ h => panic_put (fn := Try.f9) (d := 132) (by decide) h) (fun _ ⟨hV, B4, hW17, B27, H33, Bn38, H41, V58, B52, H65, Bo, Oc, hD_D94, Bq, hD_D104, O109, O115, H123, H129, _⟩ => x_move rfl (fr.ev rfl)) ⟨hV, B4, hW17, B27, H33, Bn38, H41, V58, B52, H65, Bo, Oc, hD_D94, Bq, hD_D104, O109, O115, H123, H129, trivial⟩ ?_
        clear fr a; intro a fr
        refine fx_one (i := 24) (by kernel_rfl) (fx_op rfl ?_)
        refine fx_call fr (fr.want rfl rfl rfl) rfl (by first | decide | simp) (x_call (vs := [.pointer (some ⟨b11, 0, none⟩), .pointer (some ⟨b31, 0, none⟩)]) rfl rfl ⟨(fr.ev rfl), (fr.ev rfl), trivial⟩ Try.func27 nm27 rfl) (same_xx H65 H33) ?_
        clear fr a
        rintro v w147 ⟨rfl, hN148⟩ a fr
        replace hV := hV.new hN148
        replace B4 := B4.new hN148
        replace hW17 := hW17.new hN148
        replace B27 := B27.new hN148
        replace H33 := H33.new hN148
        replace Bn38 := Bn38.new hN148
        replace H41 := H41.new hN148
        replace V58 := V58.new hN148
        replace B52 := B52.new hN148
        replace H65 := H65.new hN148
        replace Bo := Bo.new hN148
        replace Oc := Oc.new hN148
        replace hD_D94 := hD_D94.new hN148
        replace Bq := Bq.new hN148
        replace hD_D104 := hD_D104.new hN148
        replace O109 := O109.new hN148
        replace O115 := O115.new hN148
        replace H123 := H123.new hN148
        replace H129 := H129.new hN148
        replace O137 := O137.new hN148
        replace hF := hF.trNew hN148
        rw [same_l (n := n) (A := putL n ways L13 q.ln) (B := L13) (w := ways)] at fr
        refine wpList_nil ?_
        refine ⟨⟨hV, B4, hW17, B27, H33, Bn38, H41, V58, B52, H65, Bo, Oc, hD_D94, Bq, hD_D104, O109, O115, H123, H129, trivial⟩, ?_⟩
        refine fx_take (i := 26) (v := .bool true) fr rfl (by kernel_rfl) (fr.want rfl rfl rfl) rfl (by first | decide | simp) (fun _ _ _ h => panic_put (fn := Try.f9) (d := 133) (by decide) h) (fun _ ⟨hV, B4, hW17, B27, H33, Bn38, H41, V58, B52, H65, Bo, Oc, hD_D94, Bq, hD_D104, O109, O115, H123, H129, _⟩ => x_beql Try.underlying4 rfl (fr.ev rfl) (fr.ev rfl) (by simp)) ⟨hV, B4, hW17, B27, H33, Bn38, H41, V58, B52, H65, Bo, Oc, hD_D94, Bq, hD_D104, O109, O115, H123, H129, trivial⟩ ?_
        clear fr a; intro a fr
        refine fx_take (i := 27) (v := .bool true) fr rfl (by kernel_rfl) rfl rfl (by first | decide | simp) (fun _ _ _ h => panic_put (fn := Try.f9) (d := 134) (by decide) h) (fun _ ⟨hV, B4, hW17, B27, H33, Bn38, H41, V58, B52, H65, Bo, Oc, hD_D94, Bq, hD_D104, O109, O115, H123, H129, _⟩ => x_pick_t rfl (fr.ev rfl) (fr.ev rfl)) ⟨hV, B4, hW17, B27, H33, Bn38, H41, V58, B52, H65, Bo, Oc, hD_D94, Bq, hD_D104, O109, O115, H123, H129, trivial⟩ ?_
        clear fr a; intro a fr
        refine fx_take (i := 28) (v := .bool true) fr rfl (by kernel_rfl) rfl rfl (by first | decide | simp) (fun _ _ _ h => panic_put (fn := Try.f9) (d := 135) (by decide) h) (fun _ ⟨hV, B4, hW17, B27, H33, Bn38, H41, V58, B52, H65, Bo, Oc, hD_D94, Bq, hD_D104, O109, O115, H123, H129, _⟩ => x_move rfl (fr.ev rfl)) ⟨hV, B4, hW17, B27, H33, Bn38, H41, V58, B52, H65, Bo, Oc, hD_D94, Bq, hD_D104, O109, O115, H123, H129, trivial⟩ ?_
        clear fr a; intro a fr
        refine fx_take (i := 29) (v := .pointer (some ⟨b31, 0, none⟩)) fr rfl (by kernel_rfl) (fr.want rfl rfl rfl) rfl (by first | decide | simp) (fun _ _ _ h => panic_put (fn := Try.f9) (d := 136) (by decide) h) (fun _ ⟨hV, B4, hW17, B27, H33, Bn38, H41, V58, B52, H65, Bo, Oc, hD_D94, Bq, hD_D104, O109, O115, H123, H129, _⟩ => x_move rfl (fr.ev rfl)) ⟨hV, B4, hW17, B27, H33, Bn38, H41, V58, B52, H65, Bo, Oc, hD_D94, Bq, hD_D104, O109, O115, H123, H129, trivial⟩ ?_
        clear fr a; intro a fr
        refine fx_take (i := 30) (v := .pointer (some ⟨b11, 0, none⟩)) fr rfl (by kernel_rfl) (fr.want rfl rfl rfl) rfl (by first | decide | simp) (fun _ _ _ h => panic_put (fn := Try.f9) (d := 137) (by decide) h) (fun _ ⟨hV, B4, hW17, B27, H33, Bn38, H41, V58, B52, H65, Bo, Oc, hD_D94, Bq, hD_D104, O109, O115, H123, H129, _⟩ => x_move rfl (fr.ev rfl)) ⟨hV, B4, hW17, B27, H33, Bn38, H41, V58, B52, H65, Bo, Oc, hD_D94, Bq, hD_D104, O109, O115, H123, H129, trivial⟩ ?_
        clear fr a; intro a fr
        refine fx_take (i := 32) (v := .bool (decide (allL n (putL n ways L13 q.ln) = allL n L13))) fr rfl (by kernel_rfl) (fr.want rfl rfl rfl) rfl (by first | decide | simp) (fun _ _ _ h => panic_put (fn := Try.f9) (d := 139) (by decide) h) (fun _ ⟨hV, B4, hW17, B27, H33, Bn38, H41, V58, B52, H65, Bo, Oc, hD_D94, Bq, hD_D104, O109, O115, H123, H129, _⟩ => x_move rfl (fr.ev rfl)) ⟨hV, B4, hW17, B27, H33, Bn38, H41, V58, B52, H65, Bo, Oc, hD_D94, Bq, hD_D104, O109, O115, H123, H129, trivial⟩ ?_
        clear fr a; intro a fr
        refine fx_one (i := 31) (by kernel_rfl) (fx_op rfl ?_)
        refine fx_call fr (fr.want rfl rfl rfl) rfl (by first | decide | simp) (x_call (vs := [.pointer (some ⟨b31, 0, none⟩), .pointer (some ⟨b11, 0, none⟩)]) rfl rfl ⟨(fr.ev rfl), (fr.ev rfl), trivial⟩ Try.func27 nm27 rfl) (same_xx H33 H65) ?_
        clear fr a
        rintro v w149 ⟨rfl, hN150⟩ a fr
        replace hV := hV.new hN150
        replace B4 := B4.new hN150
        replace hW17 := hW17.new hN150
        replace B27 := B27.new hN150
        replace H33 := H33.new hN150
        replace Bn38 := Bn38.new hN150
        replace H41 := H41.new hN150
        replace V58 := V58.new hN150
        replace B52 := B52.new hN150
        replace H65 := H65.new hN150
        replace Bo := Bo.new hN150
        replace Oc := Oc.new hN150
        replace hD_D94 := hD_D94.new hN150
        replace Bq := Bq.new hN150
        replace hD_D104 := hD_D104.new hN150
        replace O109 := O109.new hN150
        replace O115 := O115.new hN150
        replace H123 := H123.new hN150
        replace H129 := H129.new hN150
        replace O137 := O137.new hN150
        replace hF := hF.trNew hN150
        rw [same_r (n := n) (A := L13) (B := putL n ways L13 q.ln) (w := ways)] at fr
        refine wpList_nil ?_
        refine ⟨⟨hV, B4, hW17, B27, H33, Bn38, H41, V58, B52, H65, Bo, Oc, hD_D94, Bq, hD_D104, O109, O115, H123, H129, trivial⟩, ?_⟩
        refine fx_take (i := 33) (v := .bool true) fr rfl (by kernel_rfl) (fr.want rfl rfl rfl) rfl (by first | decide | simp) (fun _ _ _ h => panic_put (fn := Try.f9) (d := 140) (by decide) h) (fun _ ⟨hV, B4, hW17, B27, H33, Bn38, H41, V58, B52, H65, Bo, Oc, hD_D94, Bq, hD_D104, O109, O115, H123, H129, _⟩ => x_beql Try.underlying4 rfl (fr.ev rfl) (fr.ev rfl) (by simp)) ⟨hV, B4, hW17, B27, H33, Bn38, H41, V58, B52, H65, Bo, Oc, hD_D94, Bq, hD_D104, O109, O115, H123, H129, trivial⟩ ?_
        clear fr a; intro a fr
        refine fx_take (i := 34) (v := .bool true) fr rfl (by kernel_rfl) rfl rfl (by first | decide | simp) (fun _ _ _ h => panic_put (fn := Try.f9) (d := 141) (by decide) h) (fun _ ⟨hV, B4, hW17, B27, H33, Bn38, H41, V58, B52, H65, Bo, Oc, hD_D94, Bq, hD_D104, O109, O115, H123, H129, _⟩ => x_pick_t rfl (fr.ev rfl) (fr.ev rfl)) ⟨hV, B4, hW17, B27, H33, Bn38, H41, V58, B52, H65, Bo, Oc, hD_D94, Bq, hD_D104, O109, O115, H123, H129, trivial⟩ ?_
        clear fr a; intro a fr
        refine fx_take (i := 35) (v := .bool true) fr rfl (by kernel_rfl) rfl rfl (by first | decide | simp) (fun _ _ _ h => panic_put (fn := Try.f9) (d := 142) (by decide) h) (fun _ ⟨hV, B4, hW17, B27, H33, Bn38, H41, V58, B52, H65, Bo, Oc, hD_D94, Bq, hD_D104, O109, O115, H123, H129, _⟩ => x_move rfl (fr.ev rfl)) ⟨hV, B4, hW17, B27, H33, Bn38, H41, V58, B52, H65, Bo, Oc, hD_D94, Bq, hD_D104, O109, O115, H123, H129, trivial⟩ ?_
        clear fr a; intro a fr
        refine fx_take (i := 36) (v := .pointer (some ⟨b121, 0, none⟩)) fr rfl (by kernel_rfl) (fr.want rfl rfl rfl) rfl (by first | decide | simp) (fun _ _ _ h => panic_put (fn := Try.f9) (d := 143) (by decide) h) (fun _ ⟨hV, B4, hW17, B27, H33, Bn38, H41, V58, B52, H65, Bo, Oc, hD_D94, Bq, hD_D104, O109, O115, H123, H129, _⟩ => x_move rfl (fr.ev rfl)) ⟨hV, B4, hW17, B27, H33, Bn38, H41, V58, B52, H65, Bo, Oc, hD_D94, Bq, hD_D104, O109, O115, H123, H129, trivial⟩ ?_
        clear fr a; intro a fr
        refine fx_take (i := 37) (v := .pointer (some ⟨b127, 0, none⟩)) fr rfl (by kernel_rfl) (fr.want rfl rfl rfl) rfl (by first | decide | simp) (fun _ _ _ h => panic_put (fn := Try.f9) (d := 144) (by decide) h) (fun _ ⟨hV, B4, hW17, B27, H33, Bn38, H41, V58, B52, H65, Bo, Oc, hD_D94, Bq, hD_D104, O109, O115, H123, H129, _⟩ => x_move rfl (fr.ev rfl)) ⟨hV, B4, hW17, B27, H33, Bn38, H41, V58, B52, H65, Bo, Oc, hD_D94, Bq, hD_D104, O109, O115, H123, H129, trivial⟩ ?_
        clear fr a; intro a fr
        refine fx_take (i := 39) (v := .int .i64 ways) fr rfl (by kernel_rfl) (fr.want rfl rfl rfl) rfl (by first | decide | simp) (fun _ _ _ h => panic_put (fn := Try.f9) (d := 146) (by decide) h) (fun _ ⟨hV, B4, hW17, B27, H33, Bn38, H41, V58, B52, H65, Bo, Oc, hD_D94, Bq, hD_D104, O109, O115, H123, H129, _⟩ => x_move rfl (fr.ev rfl)) ⟨hV, B4, hW17, B27, H33, Bn38, H41, V58, B52, H65, Bo, Oc, hD_D94, Bq, hD_D104, O109, O115, H123, H129, trivial⟩ ?_
        clear fr a; intro a fr
        refine fx_take (i := 40) (v := .int .i64 (Int.tmod ways 8)) fr rfl (by kernel_rfl) (fr.want rfl rfl rfl) rfl (by first | decide | simp) (fun _ _ _ h => panic_put (fn := Try.f9) (d := 147) (by decide) h) (fun _ ⟨hV, B4, hW17, B27, H33, Bn38, H41, V58, B52, H65, Bo, Oc, hD_D94, Bq, hD_D104, O109, O115, H123, H129, _⟩ => x_rem rfl (fr.ev rfl) rfl (by decide) rfl) ⟨hV, B4, hW17, B27, H33, Bn38, H41, V58, B52, H65, Bo, Oc, hD_D94, Bq, hD_D104, O109, O115, H123, H129, trivial⟩ ?_
        clear fr a; intro a fr
        refine fx_take (i := 41) (v := .int .i64 (Int.tmod ways 8 + 1)) fr rfl (by kernel_rfl) (fr.want rfl rfl rfl) rfl (by first | decide | simp) (fun _ _ _ h => panic_put (fn := Try.f9) (d := 148) (by decide) h) (fun _ ⟨hV, B4, hW17, B27, H33, Bn38, H41, V58, B52, H65, Bo, Oc, hD_D94, Bq, hD_D104, O109, O115, H123, H129, _⟩ => x_add rfl (fr.ev rfl) rfl (i64w (r := Int.tmod ways 8 + 1) (by omega) (by omega))) ⟨hV, B4, hW17, B27, H33, Bn38, H41, V58, B52, H65, Bo, Oc, hD_D94, Bq, hD_D104, O109, O115, H123, H129, trivial⟩ ?_
        clear fr a; intro a fr
        refine fx_take (i := 42) (v := .int .i64 ways) fr rfl (by kernel_rfl) (fr.want rfl rfl rfl) rfl (by first | decide | simp) (fun _ _ _ h => panic_put (fn := Try.f9) (d := 149) (by decide) h) (fun _ ⟨hV, B4, hW17, B27, H33, Bn38, H41, V58, B52, H65, Bo, Oc, hD_D94, Bq, hD_D104, O109, O115, H123, H129, _⟩ => x_move rfl (fr.ev rfl)) ⟨hV, B4, hW17, B27, H33, Bn38, H41, V58, B52, H65, Bo, Oc, hD_D94, Bq, hD_D104, O109, O115, H123, H129, trivial⟩ ?_
        clear fr a; intro a fr
        refine fx_take (i := 43) (v := .bool (decide (Int.tmod ways 8 + 1 = ways))) fr rfl (by kernel_rfl) (fr.want rfl rfl rfl) rfl (by first | decide | simp) (fun _ _ _ h => panic_put (fn := Try.f9) (d := 150) (by decide) h) (fun _ ⟨hV, B4, hW17, B27, H33, Bn38, H41, V58, B52, H65, Bo, Oc, hD_D94, Bq, hD_D104, O109, O115, H123, H129, _⟩ => x_eql rfl (fr.ev rfl) (fr.ev rfl) rfl) ⟨hV, B4, hW17, B27, H33, Bn38, H41, V58, B52, H65, Bo, Oc, hD_D94, Bq, hD_D104, O109, O115, H123, H129, trivial⟩ ?_
        clear fr a; intro a fr
        refine fx_one (i := 38) (by kernel_rfl) (fx_op rfl ?_)
        refine fx_call fr (fr.want rfl rfl rfl) rfl (by first | decide | simp) (x_call (vs := [.pointer (some ⟨b121, 0, none⟩), .pointer (some ⟨b127, 0, none⟩)]) rfl rfl ⟨(fr.ev rfl), (fr.ev rfl), trivial⟩ Try.func27 nm27 rfl) (same_xx H123 H129) ?_
        clear fr a
        rintro v w151 ⟨rfl, hN152⟩ a fr
        replace hV := hV.new hN152
        replace B4 := B4.new hN152
        replace hW17 := hW17.new hN152
        replace B27 := B27.new hN152
        replace H33 := H33.new hN152
        replace Bn38 := Bn38.new hN152
        replace H41 := H41.new hN152
        replace V58 := V58.new hN152
        replace B52 := B52.new hN152
        replace H65 := H65.new hN152
        replace Bo := Bo.new hN152
        replace Oc := Oc.new hN152
        replace hD_D94 := hD_D94.new hN152
        replace Bq := Bq.new hN152
        replace hD_D104 := hD_D104.new hN152
        replace O109 := O109.new hN152
        replace O115 := O115.new hN152
        replace H123 := H123.new hN152
        replace H129 := H129.new hN152
        replace O137 := O137.new hN152
        replace hF := hF.trNew hN152
        rw [same_w (n := n) (A := []) (w := Int.tmod ways 8 + 1) (v := ways)] at fr
        refine wpList_nil ?_
        refine ⟨⟨hV, B4, hW17, B27, H33, Bn38, H41, V58, B52, H65, Bo, Oc, hD_D94, Bq, hD_D104, O109, O115, H123, H129, trivial⟩, ?_⟩
        refine fx_take (i := 44) (v := .bool true) fr rfl (by kernel_rfl) (fr.want rfl rfl rfl) rfl (by first | decide | simp) (fun _ _ _ h => panic_put (fn := Try.f9) (d := 151) (by decide) h) (fun _ ⟨hV, B4, hW17, B27, H33, Bn38, H41, V58, B52, H65, Bo, Oc, hD_D94, Bq, hD_D104, O109, O115, H123, H129, _⟩ => x_beql Try.underlying4 rfl (fr.ev rfl) (fr.ev rfl) (by simp)) ⟨hV, B4, hW17, B27, H33, Bn38, H41, V58, B52, H65, Bo, Oc, hD_D94, Bq, hD_D104, O109, O115, H123, H129, trivial⟩ ?_
        clear fr a; intro a fr
        refine fx_take (i := 45) (v := .bool true) fr rfl (by kernel_rfl) rfl rfl (by first | decide | simp) (fun _ _ _ h => panic_put (fn := Try.f9) (d := 152) (by decide) h) (fun _ ⟨hV, B4, hW17, B27, H33, Bn38, H41, V58, B52, H65, Bo, Oc, hD_D94, Bq, hD_D104, O109, O115, H123, H129, _⟩ => x_pick_t rfl (fr.ev rfl) (fr.ev rfl)) ⟨hV, B4, hW17, B27, H33, Bn38, H41, V58, B52, H65, Bo, Oc, hD_D94, Bq, hD_D104, O109, O115, H123, H129, trivial⟩ ?_
        clear fr a; intro a fr
        refine fx_take (i := 46) (v := .bool true) fr rfl (by kernel_rfl) rfl rfl (by first | decide | simp) (fun _ _ _ h => panic_put (fn := Try.f9) (d := 153) (by decide) h) (fun _ ⟨hV, B4, hW17, B27, H33, Bn38, H41, V58, B52, H65, Bo, Oc, hD_D94, Bq, hD_D104, O109, O115, H123, H129, _⟩ => x_move rfl (fr.ev rfl)) ⟨hV, B4, hW17, B27, H33, Bn38, H41, V58, B52, H65, Bo, Oc, hD_D94, Bq, hD_D104, O109, O115, H123, H129, trivial⟩ ?_
        clear fr a; intro a fr
        refine fx_one (i := 47) (by kernel_rfl) (fx_op rfl ?_)
        refine fx_call fr (fr.want rfl rfl rfl) rfl (by first | decide | simp) (x_call (vs := []) rfl rfl trivial Try.func11 nm11 rfl) (works_c _) ?_
        clear fr a
        rintro v w153 ⟨rfl, hN154⟩ a fr
        replace hV := hV.new hN154
        replace B4 := B4.new hN154
        replace hW17 := hW17.new hN154
        replace B27 := B27.new hN154
        replace H33 := H33.new hN154
        replace Bn38 := Bn38.new hN154
        replace H41 := H41.new hN154
        replace V58 := V58.new hN154
        replace B52 := B52.new hN154
        replace H65 := H65.new hN154
        replace Bo := Bo.new hN154
        replace Oc := Oc.new hN154
        replace hD_D94 := hD_D94.new hN154
        replace Bq := Bq.new hN154
        replace hD_D104 := hD_D104.new hN154
        replace O109 := O109.new hN154
        replace O115 := O115.new hN154
        replace H123 := H123.new hN154
        replace H129 := H129.new hN154
        replace O137 := O137.new hN154
        replace hF := hF.trNew hN154
        refine wpList_nil ?_
        refine ⟨⟨hV, B4, hW17, B27, H33, Bn38, H41, V58, B52, H65, Bo, Oc, hD_D94, Bq, hD_D104, O109, O115, H123, H129, trivial⟩, ?_⟩
        refine fx_take (i := 48) (v := .bool true) fr rfl (by kernel_rfl) rfl rfl (by first | decide | simp) (fun _ _ _ h => panic_put (fn := Try.f9) (d := 155) (by decide) h) (fun _ ⟨hV, B4, hW17, B27, H33, Bn38, H41, V58, B52, H65, Bo, Oc, hD_D94, Bq, hD_D104, O109, O115, H123, H129, _⟩ => x_pick_t rfl (fr.ev rfl) (fr.ev rfl)) ⟨hV, B4, hW17, B27, H33, Bn38, H41, V58, B52, H65, Bo, Oc, hD_D94, Bq, hD_D104, O109, O115, H123, H129, trivial⟩ ?_
        clear fr a; intro a fr
        refine fx_hdone (by kernel_rfl) ?_
        refine fx_tail ?_
        refine fx_val (v := .bool true) fr rfl rfl (by first | decide | simp) (x_assign rfl (fr.ev rfl)) ?_
        clear fr a; intro a fr
        refine wpList_nil ?_
        refine fx_next ?_
        refine wp_ret ?_
        refine fx_retM2 fr g_D94 g_D104 nem_D104_D94 hD_D94 hD_D104 [.tmp 8] [.bool true] rfl rfl ?_
        intro wE hT
        replace hV := hV.turn hT
        replace B4 := B4.turn hT
        replace hW17 := hW17.turn hT
        replace B27 := B27.turn hT
        replace H33 := H33.turn hT
        replace Bn38 := Bn38.turn hT
        replace H41 := H41.turn hT
        replace V58 := V58.turn hT
        replace B52 := B52.turn hT
        replace H65 := H65.turn hT
        replace Bo := Bo.turn hT
        replace Oc := Oc.turn hT
        replace Bq := Bq.turn hT
        replace O109 := O109.turn hT
        replace O115 := O115.turn hT
        replace H123 := H123.turn hT
        replace H129 := H129.turn hT
        replace O137 := O137.turn hT
        replace hF := hF.turn hT (Nat.le_refl _)
        refine ⟨⟨rfl, trivial⟩, ?_⟩
        exact ⟨_, rfl, rfl, hF⟩
      · skip
        rintro D104 c pre W1 hD hpre (⟨rfl, Bq, hC, hpne⟩) hD_D104 a fr
        have g_D104 := Nat.le_trans hF.size hD
        have nem_D104_D94 : D104 ≠ D94 := (by have := hD_D94.lt; omega)
        replace hV := hV.only hC (Apart.ne1 ap_P_b95)
        replace B4 := B4.only hC (by first | exact ne_b1_b95 | exact ne_b95_b1.symm | (show ¬ b1 = b95; omega))
        replace hW17 := hW17.only hC (Apart.ne1 ap_V14_b95)
        replace B27 := B27.only hC (by first | exact ne_b24_b95 | exact ne_b95_b24.symm | (show ¬ b24 = b95; omega))
        replace H33 := H33.only hC (ne1P ap_Fp32_b95)
        replace Bn38 := Bn38.only hC (by first | exact ne_bn37_b95 | exact ne_b95_bn37.symm | (show ¬ bn37 = b95; omega))
        replace H41 := H41.only hC (ne1P ap_Fp40_b95)
        replace V58 := V58.only hC (Apart.ne1 ap_A56_b95)
        replace B52 := B52.only hC (by first | exact ne_b49_b95 | exact ne_b95_b49.symm | (show ¬ b49 = b95; omega))
        replace H65 := H65.only hC (ne1P ap_Fp64_b95)
        replace Bo := Bo.only hC (by first | exact ne_b69_b95 | exact ne_b95_b69.symm | (show ¬ b69 = b95; omega))
        replace Oc := Oc.only hC (Apart.ne1 ap_A_b95)
        replace hD_D94 := hD_D94.only hC (by first | exact ne_D94_b95 | exact ne_b95_D94.symm | (show ¬ D94 = b95; omega))
        replace hF := hF.loc hC (.inr g_b95)
        have ne_b1_D104 := B4.mark hD_D104
        have ne_b24_D104 := B27.mark hD_D104
        have ne_bn37_D104 := Bn38.mark hD_D104
        have ne_b49_D104 := B52.mark hD_D104
        have ne_b69_D104 := Bo.mark hD_D104
        have ap_A_D104 := Oc.mark hD_D104
        have ne_b95_D104 := Bq.mark hD_D104
        have hmin := min_some hpre hpne
        refine wp_exit ?_
        refine fx_xx ?_
        refine fx_next ?_
        refine wp_seq ?_
        refine fx_heldT (n := 5) (k := 5) (fun w => View actE w P cp la ∧ Blk w b1 57 (actE.arr q) ∧ View lnE w V14 vc15 L13 ∧ Blk w b24 28 (#[.int .i64 ((n : Nat) : Int), .int .i64 ways, .slice V14 L13.length vc15]) ∧ LinesAt w Fp32 b31 n ways L13 ∧ Blk w bn37 25 #[.pointer (some ⟨b39, 0, none⟩)] ∧ LinesAt w Fp40 b39 n ways L13 ∧ View lnE w A56 cap57 (putL n ways L13 q.ln) ∧ Blk w b49 28 (#[.int .i64 ((n : Nat) : Int), .int .i64 ways, .slice A56 ((putL n ways L13 q.ln).length) cap57]) ∧ LinesAt w Fp64 b11 n ways (putL n ways L13 q.ln) ∧ Blk w b69 26 #[.slice A ((allL n L13).length) cap] ∧ Own lnE w A cap (allL n L13) ∧ MarkAt w D94 ∧ Blk w b95 3 #[.int .i64 1] ∧ MarkAt w D104 ∧ True) (by kernel_rfl) (by kernel_rfl) rfl ?_  -- region 21
        intro w155 hN156
        replace hV := hV.new hN156
        replace B4 := B4.new hN156
        replace hW17 := hW17.new hN156
        replace B27 := B27.new hN156
        replace H33 := H33.new hN156
        replace Bn38 := Bn38.new hN156
        replace H41 := H41.new hN156
        replace V58 := V58.new hN156
        replace B52 := B52.new hN156
        replace H65 := H65.new hN156
        replace Bo := Bo.new hN156
        replace Oc := Oc.new hN156
        replace hD_D94 := hD_D94.new hN156
        replace Bq := Bq.new hN156
        replace hD_D104 := hD_D104.new hN156
        replace hF := hF.trNew hN156
        refine fx_take (i := 0) (v := .agg (#[.int .i64 ((n : Nat) : Int), .int .i64 ways, .slice A56 ((putL n ways L13 q.ln).length) cap57])) fr rfl (by kernel_rfl) rfl rfl (by first | decide | simp) (fun _ _ _ h => panic_put (fn := Try.f9) (d := 88) (by decide) h) (fun _ ⟨hV, B4, hW17, B27, H33, Bn38, H41, V58, B52, H65, Bo, Oc, hD_D94, Bq, hD_D104, _⟩ => x_loadS ag28 rfl (fr.ev rfl) rfl B52.range) ⟨hV, B4, hW17, B27, H33, Bn38, H41, V58, B52, H65, Bo, Oc, hD_D94, Bq, hD_D104, trivial⟩ ?_
        clear fr a; intro a fr
        refine fx_take (i := 2) (v := .agg (#[.int .i64 ((n : Nat) : Int), .int .i64 ways, .slice V14 L13.length vc15])) fr rfl (by kernel_rfl) rfl rfl (by first | decide | simp) (fun _ _ _ h => panic_put (fn := Try.f9) (d := 90) (by decide) h) (fun _ ⟨hV, B4, hW17, B27, H33, Bn38, H41, V58, B52, H65, Bo, Oc, hD_D94, Bq, hD_D104, _⟩ => x_loadS ag28 rfl (fr.ev rfl) rfl B27.range) ⟨hV, B4, hW17, B27, H33, Bn38, H41, V58, B52, H65, Bo, Oc, hD_D94, Bq, hD_D104, trivial⟩ ?_
        clear fr a; intro a fr
        refine fx_one (i := 1) (by kernel_rfl) (fx_op rfl ?_)
        refine fx_call fr rfl rfl (by first | decide | simp) (x_call (vs := [.agg (#[.int .i64 ((n : Nat) : Int), .int .i64 ways, .slice A56 ((putL n ways L13 q.ln).length) cap57])]) rfl rfl ⟨(fr.ev rfl), trivial⟩ Try.func30 nm30 rfl) (rall_c (n := n) (ways := ways) (L := putL n ways L13 q.ln) (V58) (by first | omega | decide) (by omega)) ?_
        clear fr a
        rintro v w161 ⟨A157, cap158, rfl, O159, hA160, hN162⟩ a fr
        have ap2_P_A157 : Apart2 P A157 := (new_apart2 hA160 fun _ hg => hV.lt hg).symm
        have ap_A157_b1 : Apart A157 b1 := new_apart hA160 B4.lt
        have ap2_V14_A157 : Apart2 V14 A157 := (new_apart2 hA160 fun _ hg => hW17.lt hg).symm
        have ap_A157_b24 : Apart A157 b24 := new_apart hA160 B27.lt
        have ap2_Fp32_A157 : ∀ k, Fp32 k → inA A157 k → False := symP (new_apart2P hA160 fun _ hg => H33.lt hg)
        have ap_A157_bn37 : Apart A157 bn37 := new_apart hA160 Bn38.lt
        have ap2_Fp40_A157 : ∀ k, Fp40 k → inA A157 k → False := symP (new_apart2P hA160 fun _ hg => H41.lt hg)
        have ap2_A56_A157 : Apart2 A56 A157 := (new_apart2 hA160 fun _ hg => V58.lt hg).symm
        have ap_A157_b49 : Apart A157 b49 := new_apart hA160 B52.lt
        have ap2_Fp64_A157 : ∀ k, Fp64 k → inA A157 k → False := symP (new_apart2P hA160 fun _ hg => H65.lt hg)
        have ap_A157_b69 : Apart A157 b69 := new_apart hA160 Bo.lt
        have ap2_A_A157 : Apart2 A A157 := (new_apart2 hA160 fun _ hg => Oc.lt hg).symm
        have ap_A157_D94 : Apart A157 D94 := new_apart hA160 hD_D94.lt
        have ap_A157_b95 : Apart A157 b95 := new_apart hA160 Bq.lt
        have ap_A157_D104 : Apart A157 D104 := new_apart hA160 hD_D104.lt
        have gA_A157 := gA_new hF hA160
        replace hV := hV.new hN162
        replace B4 := B4.new hN162
        replace hW17 := hW17.new hN162
        replace B27 := B27.new hN162
        replace H33 := H33.new hN162
        replace Bn38 := Bn38.new hN162
        replace H41 := H41.new hN162
        replace V58 := V58.new hN162
        replace B52 := B52.new hN162
        replace H65 := H65.new hN162
        replace Bo := Bo.new hN162
        replace Oc := Oc.new hN162
        replace hD_D94 := hD_D94.new hN162
        replace Bq := Bq.new hN162
        replace hD_D104 := hD_D104.new hN162
        replace hF := hF.trNew hN162
        refine wpList_nil ?_
        refine ⟨⟨hV, B4, hW17, B27, H33, Bn38, H41, V58, B52, H65, Bo, Oc, hD_D94, Bq, hD_D104, trivial⟩, ?_⟩
        refine fx_one (i := 3) (by kernel_rfl) (fx_op rfl ?_)
        refine fx_call fr rfl rfl (by first | decide | simp) (x_call (vs := [.agg (#[.int .i64 ((n : Nat) : Int), .int .i64 ways, .slice V14 L13.length vc15])]) rfl rfl ⟨(fr.ev rfl), trivial⟩ Try.func30 nm30 rfl) (rall_c (n := n) (ways := ways) (L := L13) (hW17) (by first | omega | decide) (by omega)) ?_
        clear fr a
        rintro v w167 ⟨A163, cap164, rfl, O165, hA166, hN168⟩ a fr
        have ap2_P_A163 : Apart2 P A163 := (new_apart2 hA166 fun _ hg => hV.lt hg).symm
        have ap_A163_b1 : Apart A163 b1 := new_apart hA166 B4.lt
        have ap2_V14_A163 : Apart2 V14 A163 := (new_apart2 hA166 fun _ hg => hW17.lt hg).symm
        have ap_A163_b24 : Apart A163 b24 := new_apart hA166 B27.lt
        have ap2_Fp32_A163 : ∀ k, Fp32 k → inA A163 k → False := symP (new_apart2P hA166 fun _ hg => H33.lt hg)
        have ap_A163_bn37 : Apart A163 bn37 := new_apart hA166 Bn38.lt
        have ap2_Fp40_A163 : ∀ k, Fp40 k → inA A163 k → False := symP (new_apart2P hA166 fun _ hg => H41.lt hg)
        have ap2_A56_A163 : Apart2 A56 A163 := (new_apart2 hA166 fun _ hg => V58.lt hg).symm
        have ap_A163_b49 : Apart A163 b49 := new_apart hA166 B52.lt
        have ap2_Fp64_A163 : ∀ k, Fp64 k → inA A163 k → False := symP (new_apart2P hA166 fun _ hg => H65.lt hg)
        have ap_A163_b69 : Apart A163 b69 := new_apart hA166 Bo.lt
        have ap2_A_A163 : Apart2 A A163 := (new_apart2 hA166 fun _ hg => Oc.lt hg).symm
        have ap_A163_D94 : Apart A163 D94 := new_apart hA166 hD_D94.lt
        have ap_A163_b95 : Apart A163 b95 := new_apart hA166 Bq.lt
        have ap_A163_D104 : Apart A163 D104 := new_apart hA166 hD_D104.lt
        have ap2_A157_A163 : Apart2 A157 A163 := (new_apart2 hA166 fun _ hg => O159.lt hg).symm
        have gA_A163 := gA_new hF hA166
        replace hV := hV.new hN168
        replace B4 := B4.new hN168
        replace hW17 := hW17.new hN168
        replace B27 := B27.new hN168
        replace H33 := H33.new hN168
        replace Bn38 := Bn38.new hN168
        replace H41 := H41.new hN168
        replace V58 := V58.new hN168
        replace B52 := B52.new hN168
        replace H65 := H65.new hN168
        replace Bo := Bo.new hN168
        replace Oc := Oc.new hN168
        replace hD_D94 := hD_D94.new hN168
        replace Bq := Bq.new hN168
        replace hD_D104 := hD_D104.new hN168
        replace O159 := O159.new hN168
        replace hF := hF.trNew hN168
        refine wpList_nil ?_
        refine ⟨⟨hV, B4, hW17, B27, H33, Bn38, H41, V58, B52, H65, Bo, Oc, hD_D94, Bq, hD_D104, trivial⟩, ?_⟩
        refine fx_one (i := 4) (by kernel_rfl) (fx_op rfl ?_)
        refine fx_call fr rfl rfl (by first | decide | simp) (x_call (vs := [.slice A157 ((allL n (putL n ways L13 q.ln)).length) cap158, .slice A163 ((allL n L13).length) cap164]) rfl rfl ⟨(fr.ev rfl), (fr.ev rfl), trivial⟩ Try.func29 nm29 rfl) (rsame_c (la := allL n (putL n ways L13 q.ln)) (lb := allL n L13) (O159.view) (O165.view)) ?_
        clear fr a
        rintro v w169 ⟨rfl, hN170⟩ a fr
        replace hV := hV.new hN170
        replace B4 := B4.new hN170
        replace hW17 := hW17.new hN170
        replace B27 := B27.new hN170
        replace H33 := H33.new hN170
        replace Bn38 := Bn38.new hN170
        replace H41 := H41.new hN170
        replace V58 := V58.new hN170
        replace B52 := B52.new hN170
        replace H65 := H65.new hN170
        replace Bo := Bo.new hN170
        replace Oc := Oc.new hN170
        replace hD_D94 := hD_D94.new hN170
        replace Bq := Bq.new hN170
        replace hD_D104 := hD_D104.new hN170
        replace O159 := O159.new hN170
        replace O165 := O165.new hN170
        replace hF := hF.trNew hN170
        refine wpList_nil ?_
        refine ⟨⟨hV, B4, hW17, B27, H33, Bn38, H41, V58, B52, H65, Bo, Oc, hD_D94, Bq, hD_D104, trivial⟩, ?_⟩
        refine fx_hdone (by kernel_rfl) ?_
        refine fx_tail ?_
        refine fx_val (v := .bool (decide (allL n (putL n ways L13 q.ln) = allL n L13))) fr rfl rfl (by first | decide | simp) (x_assign rfl (fr.ev rfl)) ?_
        clear fr a; intro a fr
        refine wpList_nil ?_
        refine fx_next ?_
        refine wp_seq ?_
        refine wp_region_lit ?_  -- region 22
        refine fx_val (v := .int .i64 ((n : Nat) : Int)) fr rfl rfl (by first | decide | simp) (x_move rfl (fr.ev rfl)) ?_
        clear fr a; intro a fr
        refine fx_val (v := .int .i64 ways) fr rfl rfl (by first | decide | simp) (x_move rfl (fr.ev rfl)) ?_
        clear fr a; intro a fr
        refine fx_val (v := .int .i64 (Int.tmod ways 8)) fr rfl rfl (by first | decide | simp) (x_rem rfl (fr.ev rfl) rfl (by decide) rfl) ?_
        clear fr a; intro a fr
        refine fx_val (v := .int .i64 (Int.tmod ways 8 + 1)) fr rfl rfl (by first | decide | simp) (x_add rfl (fr.ev rfl) rfl (i64w (r := Int.tmod ways 8 + 1) (by omega) (by omega))) ?_
        clear fr a; intro a fr
        refine fx_call fr rfl rfl (by first | decide | simp) (x_call (vs := [.int .i64 ((n : Nat) : Int), .int .i64 (Int.tmod ways 8 + 1)]) rfl rfl ⟨(fr.ev rfl), (fr.ev rfl), trivial⟩ Try.func18 nm18 rfl) (new_yes n (Int.tmod ways 8 + 1) _ hr2) ?_
        clear fr a
        rintro v w175 ⟨b171, Fp172, rfl, H173, hb174, hN176⟩ a fr
        have ap2_P_Fp172 : ∀ k, inA P k → Fp172 k → False := symP (new_apart2P hb174 fun _ hg => hV.lt hg)
        have ap_Fp172_b1 : ¬ Fp172 b1 := new_apartP hb174 B4.lt
        have ap2_V14_Fp172 : ∀ k, inA V14 k → Fp172 k → False := symP (new_apart2P hb174 fun _ hg => hW17.lt hg)
        have ap_Fp172_b24 : ¬ Fp172 b24 := new_apartP hb174 B27.lt
        have ap2_Fp32_Fp172 : ∀ k, Fp32 k → Fp172 k → False := symP (new_apart2P hb174 fun _ hg => H33.lt hg)
        have ap_Fp172_bn37 : ¬ Fp172 bn37 := new_apartP hb174 Bn38.lt
        have ap2_Fp40_Fp172 : ∀ k, Fp40 k → Fp172 k → False := symP (new_apart2P hb174 fun _ hg => H41.lt hg)
        have ap2_A56_Fp172 : ∀ k, inA A56 k → Fp172 k → False := symP (new_apart2P hb174 fun _ hg => V58.lt hg)
        have ap_Fp172_b49 : ¬ Fp172 b49 := new_apartP hb174 B52.lt
        have ap2_Fp64_Fp172 : ∀ k, Fp64 k → Fp172 k → False := symP (new_apart2P hb174 fun _ hg => H65.lt hg)
        have ap_Fp172_b69 : ¬ Fp172 b69 := new_apartP hb174 Bo.lt
        have ap2_A_Fp172 : ∀ k, inA A k → Fp172 k → False := symP (new_apart2P hb174 fun _ hg => Oc.lt hg)
        have ap_Fp172_D94 : ¬ Fp172 D94 := new_apartP hb174 hD_D94.lt
        have ap_Fp172_b95 : ¬ Fp172 b95 := new_apartP hb174 Bq.lt
        have ap_Fp172_D104 : ¬ Fp172 D104 := new_apartP hb174 hD_D104.lt
        have ap2_A157_Fp172 : ∀ k, inA A157 k → Fp172 k → False := symP (new_apart2P hb174 fun _ hg => O159.lt hg)
        have ap2_A163_Fp172 : ∀ k, inA A163 k → Fp172 k → False := symP (new_apart2P hb174 fun _ hg => O165.lt hg)
        have gA_Fp172 := gA_newP hF hb174
        replace hV := hV.new hN176
        replace B4 := B4.new hN176
        replace hW17 := hW17.new hN176
        replace B27 := B27.new hN176
        replace H33 := H33.new hN176
        replace Bn38 := Bn38.new hN176
        replace H41 := H41.new hN176
        replace V58 := V58.new hN176
        replace B52 := B52.new hN176
        replace H65 := H65.new hN176
        replace Bo := Bo.new hN176
        replace Oc := Oc.new hN176
        replace hD_D94 := hD_D94.new hN176
        replace Bq := Bq.new hN176
        replace hD_D104 := hD_D104.new hN176
        replace O159 := O159.new hN176
        replace O165 := O165.new hN176
        replace hF := hF.trNew hN176
        refine fx_val (v := .tuple #[.pointer (some ⟨b171, 0, none⟩), .int .i64 0]) fr rfl rfl (by first | decide | simp) (x_move rfl (fr.ev rfl)) ?_
        clear fr a; intro a fr
        refine fx_val (v := .pointer (some ⟨b171, 0, none⟩)) fr rfl rfl (by first | decide | simp) (x_extract rfl (fr.ev rfl) rfl) ?_
        clear fr a; intro a fr
        refine fx_val (v := .int .i64 0) fr rfl rfl (by first | decide | simp) (x_extract rfl (fr.ev rfl) rfl) ?_
        clear fr a; intro a fr
        refine fx_val (v := .pointer (some ⟨b171, 0, none⟩)) fr rfl rfl (by first | decide | simp) (x_assign rfl (fr.ev rfl)) ?_
        clear fr a; intro a fr
        refine fx_val (v := .int .i64 0) fr rfl rfl (by first | decide | simp) (x_assign rfl (fr.ev rfl)) ?_
        clear fr a; intro a fr
        refine wpList_nil ?_
        refine fx_next ?_
        refine wp_seq ?_
        refine wp_region_lit ?_  -- region 23
        refine fx_val (v := .int .i64 ((n : Nat) : Int)) fr rfl rfl (by first | decide | simp) (x_move rfl (fr.ev rfl)) ?_
        clear fr a; intro a fr
        refine fx_val (v := .int .i64 ways) fr rfl rfl (by first | decide | simp) (x_move rfl (fr.ev rfl)) ?_
        clear fr a; intro a fr
        refine fx_call fr rfl rfl (by first | decide | simp) (x_call (vs := [.int .i64 ((n : Nat) : Int), .int .i64 ways]) rfl rfl ⟨(fr.ev rfl), (fr.ev rfl), trivial⟩ Try.func18 nm18 rfl) (new_yes n ways _ hr) ?_
        clear fr a
        rintro v w181 ⟨b177, Fp178, rfl, H179, hb180, hN182⟩ a fr
        have ap2_P_Fp178 : ∀ k, inA P k → Fp178 k → False := symP (new_apart2P hb180 fun _ hg => hV.lt hg)
        have ap_Fp178_b1 : ¬ Fp178 b1 := new_apartP hb180 B4.lt
        have ap2_V14_Fp178 : ∀ k, inA V14 k → Fp178 k → False := symP (new_apart2P hb180 fun _ hg => hW17.lt hg)
        have ap_Fp178_b24 : ¬ Fp178 b24 := new_apartP hb180 B27.lt
        have ap2_Fp32_Fp178 : ∀ k, Fp32 k → Fp178 k → False := symP (new_apart2P hb180 fun _ hg => H33.lt hg)
        have ap_Fp178_bn37 : ¬ Fp178 bn37 := new_apartP hb180 Bn38.lt
        have ap2_Fp40_Fp178 : ∀ k, Fp40 k → Fp178 k → False := symP (new_apart2P hb180 fun _ hg => H41.lt hg)
        have ap2_A56_Fp178 : ∀ k, inA A56 k → Fp178 k → False := symP (new_apart2P hb180 fun _ hg => V58.lt hg)
        have ap_Fp178_b49 : ¬ Fp178 b49 := new_apartP hb180 B52.lt
        have ap2_Fp64_Fp178 : ∀ k, Fp64 k → Fp178 k → False := symP (new_apart2P hb180 fun _ hg => H65.lt hg)
        have ap_Fp178_b69 : ¬ Fp178 b69 := new_apartP hb180 Bo.lt
        have ap2_A_Fp178 : ∀ k, inA A k → Fp178 k → False := symP (new_apart2P hb180 fun _ hg => Oc.lt hg)
        have ap_Fp178_D94 : ¬ Fp178 D94 := new_apartP hb180 hD_D94.lt
        have ap_Fp178_b95 : ¬ Fp178 b95 := new_apartP hb180 Bq.lt
        have ap_Fp178_D104 : ¬ Fp178 D104 := new_apartP hb180 hD_D104.lt
        have ap2_A157_Fp178 : ∀ k, inA A157 k → Fp178 k → False := symP (new_apart2P hb180 fun _ hg => O159.lt hg)
        have ap2_A163_Fp178 : ∀ k, inA A163 k → Fp178 k → False := symP (new_apart2P hb180 fun _ hg => O165.lt hg)
        have ap2_Fp172_Fp178 : ∀ k, Fp172 k → Fp178 k → False := symP (new_apart2P hb180 fun _ hg => H173.lt hg)
        have gA_Fp178 := gA_newP hF hb180
        replace hV := hV.new hN182
        replace B4 := B4.new hN182
        replace hW17 := hW17.new hN182
        replace B27 := B27.new hN182
        replace H33 := H33.new hN182
        replace Bn38 := Bn38.new hN182
        replace H41 := H41.new hN182
        replace V58 := V58.new hN182
        replace B52 := B52.new hN182
        replace H65 := H65.new hN182
        replace Bo := Bo.new hN182
        replace Oc := Oc.new hN182
        replace hD_D94 := hD_D94.new hN182
        replace Bq := Bq.new hN182
        replace hD_D104 := hD_D104.new hN182
        replace O159 := O159.new hN182
        replace O165 := O165.new hN182
        replace H173 := H173.new hN182
        replace hF := hF.trNew hN182
        refine fx_val (v := .tuple #[.pointer (some ⟨b177, 0, none⟩), .int .i64 0]) fr rfl rfl (by first | decide | simp) (x_move rfl (fr.ev rfl)) ?_
        clear fr a; intro a fr
        refine fx_val (v := .pointer (some ⟨b177, 0, none⟩)) fr rfl rfl (by first | decide | simp) (x_extract rfl (fr.ev rfl) rfl) ?_
        clear fr a; intro a fr
        refine fx_val (v := .int .i64 0) fr rfl rfl (by first | decide | simp) (x_extract rfl (fr.ev rfl) rfl) ?_
        clear fr a; intro a fr
        refine fx_val (v := .pointer (some ⟨b177, 0, none⟩)) fr rfl rfl (by first | decide | simp) (x_assign rfl (fr.ev rfl)) ?_
        clear fr a; intro a fr
        refine fx_val (v := .int .i64 0) fr rfl rfl (by first | decide | simp) (x_assign rfl (fr.ev rfl)) ?_
        clear fr a; intro a fr
        refine wpList_nil ?_
        refine fx_next ?_
        refine wp_seq ?_
        refine fx_heldT (n := 49) (k := 49) (fun w => View actE w P cp la ∧ Blk w b1 57 (actE.arr q) ∧ View lnE w V14 vc15 L13 ∧ Blk w b24 28 (#[.int .i64 ((n : Nat) : Int), .int .i64 ways, .slice V14 L13.length vc15]) ∧ LinesAt w Fp32 b31 n ways L13 ∧ Blk w bn37 25 #[.pointer (some ⟨b39, 0, none⟩)] ∧ LinesAt w Fp40 b39 n ways L13 ∧ View lnE w A56 cap57 (putL n ways L13 q.ln) ∧ Blk w b49 28 (#[.int .i64 ((n : Nat) : Int), .int .i64 ways, .slice A56 ((putL n ways L13 q.ln).length) cap57]) ∧ LinesAt w Fp64 b11 n ways (putL n ways L13 q.ln) ∧ Blk w b69 26 #[.slice A ((allL n L13).length) cap] ∧ Own lnE w A cap (allL n L13) ∧ MarkAt w D94 ∧ Blk w b95 3 #[.int .i64 1] ∧ MarkAt w D104 ∧ Own lnE w A157 cap158 (allL n (putL n ways L13 q.ln)) ∧ Own lnE w A163 cap164 (allL n L13) ∧ LinesAt w Fp172 b171 n (Int.tmod ways 8 + 1) ([]) ∧ LinesAt w Fp178 b177 n ways ([]) ∧ True) (by kernel_rfl) (by kernel_rfl) rfl ?_  -- region 24
        intro w183 hN184
        replace hV := hV.new hN184
        replace B4 := B4.new hN184
        replace hW17 := hW17.new hN184
        replace B27 := B27.new hN184
        replace H33 := H33.new hN184
        replace Bn38 := Bn38.new hN184
        replace H41 := H41.new hN184
        replace V58 := V58.new hN184
        replace B52 := B52.new hN184
        replace H65 := H65.new hN184
        replace Bo := Bo.new hN184
        replace Oc := Oc.new hN184
        replace hD_D94 := hD_D94.new hN184
        replace Bq := Bq.new hN184
        replace hD_D104 := hD_D104.new hN184
        replace O159 := O159.new hN184
        replace O165 := O165.new hN184
        replace H173 := H173.new hN184
        replace H179 := H179.new hN184
        replace hF := hF.trNew hN184
        refine fx_take (i := 0) (v := .slice A ((allL n L13).length) cap) fr rfl (by kernel_rfl) rfl rfl (by first | decide | simp) (fun _ _ _ h => panic_put (fn := Try.f9) (d := 107) (by decide) h) (fun _ ⟨hV, B4, hW17, B27, H33, Bn38, H41, V58, B52, H65, Bo, Oc, hD_D94, Bq, hD_D104, O159, O165, H173, H179, _⟩ => x_load1 pl26 rfl (fr.ev rfl) (Bo.cell 0 rfl)) ⟨hV, B4, hW17, B27, H33, Bn38, H41, V58, B52, H65, Bo, Oc, hD_D94, Bq, hD_D104, O159, O165, H173, H179, trivial⟩ ?_
        clear fr a; intro a fr
        refine fx_take (i := 1) (v := .agg (#[.int .i64 ((n : Nat) : Int), .int .i64 ways, .slice V14 L13.length vc15])) fr rfl (by kernel_rfl) rfl rfl (by first | decide | simp) (fun _ _ _ h => panic_put (fn := Try.f9) (d := 108) (by decide) h) (fun _ ⟨hV, B4, hW17, B27, H33, Bn38, H41, V58, B52, H65, Bo, Oc, hD_D94, Bq, hD_D104, O159, O165, H173, H179, _⟩ => x_loadS ag28 rfl (fr.ev rfl) rfl B27.range) ⟨hV, B4, hW17, B27, H33, Bn38, H41, V58, B52, H65, Bo, Oc, hD_D94, Bq, hD_D104, O159, O165, H173, H179, trivial⟩ ?_
        clear fr a; intro a fr
        refine fx_one (i := 2) (by kernel_rfl) (fx_op rfl ?_)
        refine fx_call fr rfl rfl (by first | decide | simp) (x_call (vs := [.agg (#[.int .i64 ((n : Nat) : Int), .int .i64 ways, .slice V14 L13.length vc15])]) rfl rfl ⟨(fr.ev rfl), trivial⟩ Try.func30 nm30 rfl) (rall_c (n := n) (ways := ways) (L := L13) (hW17) (by first | omega | decide) (by omega)) ?_
        clear fr a
        rintro v w189 ⟨A185, cap186, rfl, O187, hA188, hN190⟩ a fr
        have ap2_P_A185 : Apart2 P A185 := (new_apart2 hA188 fun _ hg => hV.lt hg).symm
        have ap_A185_b1 : Apart A185 b1 := new_apart hA188 B4.lt
        have ap2_V14_A185 : Apart2 V14 A185 := (new_apart2 hA188 fun _ hg => hW17.lt hg).symm
        have ap_A185_b24 : Apart A185 b24 := new_apart hA188 B27.lt
        have ap2_Fp32_A185 : ∀ k, Fp32 k → inA A185 k → False := symP (new_apart2P hA188 fun _ hg => H33.lt hg)
        have ap_A185_bn37 : Apart A185 bn37 := new_apart hA188 Bn38.lt
        have ap2_Fp40_A185 : ∀ k, Fp40 k → inA A185 k → False := symP (new_apart2P hA188 fun _ hg => H41.lt hg)
        have ap2_A56_A185 : Apart2 A56 A185 := (new_apart2 hA188 fun _ hg => V58.lt hg).symm
        have ap_A185_b49 : Apart A185 b49 := new_apart hA188 B52.lt
        have ap2_Fp64_A185 : ∀ k, Fp64 k → inA A185 k → False := symP (new_apart2P hA188 fun _ hg => H65.lt hg)
        have ap_A185_b69 : Apart A185 b69 := new_apart hA188 Bo.lt
        have ap2_A_A185 : Apart2 A A185 := (new_apart2 hA188 fun _ hg => Oc.lt hg).symm
        have ap_A185_D94 : Apart A185 D94 := new_apart hA188 hD_D94.lt
        have ap_A185_b95 : Apart A185 b95 := new_apart hA188 Bq.lt
        have ap_A185_D104 : Apart A185 D104 := new_apart hA188 hD_D104.lt
        have ap2_A157_A185 : Apart2 A157 A185 := (new_apart2 hA188 fun _ hg => O159.lt hg).symm
        have ap2_A163_A185 : Apart2 A163 A185 := (new_apart2 hA188 fun _ hg => O165.lt hg).symm
        have ap2_Fp172_A185 : ∀ k, Fp172 k → inA A185 k → False := symP (new_apart2P hA188 fun _ hg => H173.lt hg)
        have ap2_Fp178_A185 : ∀ k, Fp178 k → inA A185 k → False := symP (new_apart2P hA188 fun _ hg => H179.lt hg)
        have gA_A185 := gA_new hF hA188
        replace hV := hV.new hN190
        replace B4 := B4.new hN190
        replace hW17 := hW17.new hN190
        replace B27 := B27.new hN190
        replace H33 := H33.new hN190
        replace Bn38 := Bn38.new hN190
        replace H41 := H41.new hN190
        replace V58 := V58.new hN190
        replace B52 := B52.new hN190
        replace H65 := H65.new hN190
        replace Bo := Bo.new hN190
        replace Oc := Oc.new hN190
        replace hD_D94 := hD_D94.new hN190
        replace Bq := Bq.new hN190
        replace hD_D104 := hD_D104.new hN190
        replace O159 := O159.new hN190
        replace O165 := O165.new hN190
        replace H173 := H173.new hN190
        replace H179 := H179.new hN190
        replace hF := hF.trNew hN190
        refine wpList_nil ?_
        refine ⟨⟨hV, B4, hW17, B27, H33, Bn38, H41, V58, B52, H65, Bo, Oc, hD_D94, Bq, hD_D104, O159, O165, H173, H179, trivial⟩, ?_⟩
        refine fx_one (i := 3) (by kernel_rfl) (fx_op rfl ?_)
        refine fx_call fr rfl rfl (by first | decide | simp) (x_call (vs := [.slice A ((allL n L13).length) cap, .slice A185 ((allL n L13).length) cap186]) rfl rfl ⟨(fr.ev rfl), (fr.ev rfl), trivial⟩ Try.func29 nm29 rfl) (rsame_c (la := allL n L13) (lb := allL n L13) (Oc.view) (O187.view)) ?_
        clear fr a
        rintro v w191 ⟨rfl, hN192⟩ a fr
        replace hV := hV.new hN192
        replace B4 := B4.new hN192
        replace hW17 := hW17.new hN192
        replace B27 := B27.new hN192
        replace H33 := H33.new hN192
        replace Bn38 := Bn38.new hN192
        replace H41 := H41.new hN192
        replace V58 := V58.new hN192
        replace B52 := B52.new hN192
        replace H65 := H65.new hN192
        replace Bo := Bo.new hN192
        replace Oc := Oc.new hN192
        replace hD_D94 := hD_D94.new hN192
        replace Bq := Bq.new hN192
        replace hD_D104 := hD_D104.new hN192
        replace O159 := O159.new hN192
        replace O165 := O165.new hN192
        replace H173 := H173.new hN192
        replace H179 := H179.new hN192
        replace O187 := O187.new hN192
        replace hF := hF.trNew hN192
        rw [show decide (allL n L13 = allL n L13) = true from decide_eq_true rfl] at fr
        refine wpList_nil ?_
        refine ⟨⟨hV, B4, hW17, B27, H33, Bn38, H41, V58, B52, H65, Bo, Oc, hD_D94, Bq, hD_D104, O159, O165, H173, H179, trivial⟩, ?_⟩
        refine fx_take (i := 4) (v := .bool true) fr rfl (by kernel_rfl) rfl rfl (by first | decide | simp) (fun _ _ _ h => panic_put (fn := Try.f9) (d := 111) (by decide) h) (fun _ ⟨hV, B4, hW17, B27, H33, Bn38, H41, V58, B52, H65, Bo, Oc, hD_D94, Bq, hD_D104, O159, O165, H173, H179, _⟩ => x_move rfl (fr.ev rfl)) ⟨hV, B4, hW17, B27, H33, Bn38, H41, V58, B52, H65, Bo, Oc, hD_D94, Bq, hD_D104, O159, O165, H173, H179, trivial⟩ ?_
        clear fr a; intro a fr
        refine fx_take (i := 5) (v := .int .i64 1) fr rfl (by kernel_rfl) (fr.want rfl rfl rfl) rfl (by first | decide | simp) (fun _ _ _ h => panic_put (fn := Try.f9) (d := 112) (by decide) h) (fun _ ⟨hV, B4, hW17, B27, H33, Bn38, H41, V58, B52, H65, Bo, Oc, hD_D94, Bq, hD_D104, O159, O165, H173, H179, _⟩ => x_load1 pl3 rfl (fr.ev rfl) (Bq.cell 0 rfl)) ⟨hV, B4, hW17, B27, H33, Bn38, H41, V58, B52, H65, Bo, Oc, hD_D94, Bq, hD_D104, O159, O165, H173, H179, trivial⟩ ?_
        clear fr a; intro a fr
        refine fx_take (i := 6) (v := .slice A ((allL n L13).length) cap) fr rfl (by kernel_rfl) (fr.want rfl rfl rfl) rfl (by first | decide | simp) (fun _ _ _ h => panic_put (fn := Try.f9) (d := 113) (by decide) h) (fun _ ⟨hV, B4, hW17, B27, H33, Bn38, H41, V58, B52, H65, Bo, Oc, hD_D94, Bq, hD_D104, O159, O165, H173, H179, _⟩ => x_load1 pl26 rfl (fr.ev rfl) (Bo.cell 0 rfl)) ⟨hV, B4, hW17, B27, H33, Bn38, H41, V58, B52, H65, Bo, Oc, hD_D94, Bq, hD_D104, O159, O165, H173, H179, trivial⟩ ?_
        clear fr a; intro a fr
        refine fx_take (i := 7) (v := .int .i64 (((allL n L13).length : Nat) : Int)) fr rfl (by kernel_rfl) (fr.want rfl rfl rfl) rfl (by first | decide | simp) (fun _ _ _ h => panic_put (fn := Try.f9) (d := 114) (by decide) h) (fun _ ⟨hV, B4, hW17, B27, H33, Bn38, H41, V58, B52, H65, Bo, Oc, hD_D94, Bq, hD_D104, O159, O165, H173, H179, _⟩ => x_len Try.underlying26 rfl (fr.ev rfl)) ⟨hV, B4, hW17, B27, H33, Bn38, H41, V58, B52, H65, Bo, Oc, hD_D94, Bq, hD_D104, O159, O165, H173, H179, trivial⟩ ?_
        clear fr a; intro a fr
        refine fx_one (i := 8) (by kernel_rfl) (fx_op rfl ?_)
        refine fx_val (v := .int .i64 ((min 1 ((allL n L13).length) : Nat) : Int)) fr (fr.want rfl rfl rfl) rfl (by first | decide | simp) (x_min rfl rfl (fr.ev rfl) (r := ((min 1 ((allL n L13).length) : Nat) : Int)) (by omega)) ?_
        clear fr a; intro a fr
        refine wpList_nil ?_
        refine ⟨⟨hV, B4, hW17, B27, H33, Bn38, H41, V58, B52, H65, Bo, Oc, hD_D94, Bq, hD_D104, O159, O165, H173, H179, trivial⟩, ?_⟩
        refine fx_take (i := 9) (v := .bool true) fr rfl (by kernel_rfl) (fr.want rfl rfl rfl) rfl (by first | decide | simp) (fun _ _ _ h => panic_put (fn := Try.f9) (d := 116) (by decide) h) (fun _ ⟨hV, B4, hW17, B27, H33, Bn38, H41, V58, B52, H65, Bo, Oc, hD_D94, Bq, hD_D104, O159, O165, H173, H179, _⟩ => x_eql rfl (fr.ev rfl) (fr.ev rfl) (decide_eq_true hmin)) ⟨hV, B4, hW17, B27, H33, Bn38, H41, V58, B52, H65, Bo, Oc, hD_D94, Bq, hD_D104, O159, O165, H173, H179, trivial⟩ ?_
        clear fr a; intro a fr
        refine fx_take (i := 10) (v := .bool true) fr rfl (by kernel_rfl) rfl rfl (by first | decide | simp) (fun _ _ _ h => panic_put (fn := Try.f9) (d := 117) (by decide) h) (fun _ ⟨hV, B4, hW17, B27, H33, Bn38, H41, V58, B52, H65, Bo, Oc, hD_D94, Bq, hD_D104, O159, O165, H173, H179, _⟩ => x_pick_t rfl (fr.ev rfl) (fr.ev rfl)) ⟨hV, B4, hW17, B27, H33, Bn38, H41, V58, B52, H65, Bo, Oc, hD_D94, Bq, hD_D104, O159, O165, H173, H179, trivial⟩ ?_
        clear fr a; intro a fr
        refine fx_take (i := 11) (v := .bool true) fr rfl (by kernel_rfl) rfl rfl (by first | decide | simp) (fun _ _ _ h => panic_put (fn := Try.f9) (d := 118) (by decide) h) (fun _ ⟨hV, B4, hW17, B27, H33, Bn38, H41, V58, B52, H65, Bo, Oc, hD_D94, Bq, hD_D104, O159, O165, H173, H179, _⟩ => x_move rfl (fr.ev rfl)) ⟨hV, B4, hW17, B27, H33, Bn38, H41, V58, B52, H65, Bo, Oc, hD_D94, Bq, hD_D104, O159, O165, H173, H179, trivial⟩ ?_
        clear fr a; intro a fr
        refine fx_take (i := 12) (v := .pointer (some ⟨b31, 0, none⟩)) fr rfl (by kernel_rfl) (fr.want rfl rfl rfl) rfl (by first | decide | simp) (fun _ _ _ h => panic_put (fn := Try.f9) (d := 119) (by decide) h) (fun _ ⟨hV, B4, hW17, B27, H33, Bn38, H41, V58, B52, H65, Bo, Oc, hD_D94, Bq, hD_D104, O159, O165, H173, H179, _⟩ => x_move rfl (fr.ev rfl)) ⟨hV, B4, hW17, B27, H33, Bn38, H41, V58, B52, H65, Bo, Oc, hD_D94, Bq, hD_D104, O159, O165, H173, H179, trivial⟩ ?_
        clear fr a; intro a fr
        refine fx_take (i := 13) (v := .agg (#[.int .i64 ((n : Nat) : Int), .int .i64 ways, .slice V14 L13.length vc15])) fr rfl (by kernel_rfl) (fr.want rfl rfl rfl) rfl (by first | decide | simp) (fun _ _ _ h => panic_put (fn := Try.f9) (d := 120) (by decide) h) (fun _ ⟨hV, B4, hW17, B27, H33, Bn38, H41, V58, B52, H65, Bo, Oc, hD_D94, Bq, hD_D104, O159, O165, H173, H179, _⟩ => x_loadS ag28 rfl (fr.ev rfl) rfl B27.range) ⟨hV, B4, hW17, B27, H33, Bn38, H41, V58, B52, H65, Bo, Oc, hD_D94, Bq, hD_D104, O159, O165, H173, H179, trivial⟩ ?_
        clear fr a; intro a fr
        refine fx_one (i := 14) (by kernel_rfl) (fx_op rfl ?_)
        refine fx_call fr (fr.want rfl rfl rfl) rfl (by first | decide | simp) (x_call (vs := [.pointer (some ⟨b31, 0, none⟩), .agg (#[.int .i64 ((n : Nat) : Int), .int .i64 ways, .slice V14 L13.length vc15])]) rfl rfl ⟨(fr.ev rfl), (fr.ev rfl), trivial⟩ Try.func13 nm13 rfl) (is_c H33 (hW17) (by omega)) ?_
        clear fr a
        rintro v w193 ⟨rfl, hN194⟩ a fr
        replace hV := hV.new hN194
        replace B4 := B4.new hN194
        replace hW17 := hW17.new hN194
        replace B27 := B27.new hN194
        replace H33 := H33.new hN194
        replace Bn38 := Bn38.new hN194
        replace H41 := H41.new hN194
        replace V58 := V58.new hN194
        replace B52 := B52.new hN194
        replace H65 := H65.new hN194
        replace Bo := Bo.new hN194
        replace Oc := Oc.new hN194
        replace hD_D94 := hD_D94.new hN194
        replace Bq := Bq.new hN194
        replace hD_D104 := hD_D104.new hN194
        replace O159 := O159.new hN194
        replace O165 := O165.new hN194
        replace H173 := H173.new hN194
        replace H179 := H179.new hN194
        replace O187 := O187.new hN194
        replace hF := hF.trNew hN194
        refine wpList_nil ?_
        refine ⟨⟨hV, B4, hW17, B27, H33, Bn38, H41, V58, B52, H65, Bo, Oc, hD_D94, Bq, hD_D104, O159, O165, H173, H179, trivial⟩, ?_⟩
        refine fx_take (i := 15) (v := .bool true) fr rfl (by kernel_rfl) rfl rfl (by first | decide | simp) (fun _ _ _ h => panic_put (fn := Try.f9) (d := 122) (by decide) h) (fun _ ⟨hV, B4, hW17, B27, H33, Bn38, H41, V58, B52, H65, Bo, Oc, hD_D94, Bq, hD_D104, O159, O165, H173, H179, _⟩ => x_pick_t rfl (fr.ev rfl) (fr.ev rfl)) ⟨hV, B4, hW17, B27, H33, Bn38, H41, V58, B52, H65, Bo, Oc, hD_D94, Bq, hD_D104, O159, O165, H173, H179, trivial⟩ ?_
        clear fr a; intro a fr
        refine fx_take (i := 16) (v := .bool true) fr rfl (by kernel_rfl) rfl rfl (by first | decide | simp) (fun _ _ _ h => panic_put (fn := Try.f9) (d := 123) (by decide) h) (fun _ ⟨hV, B4, hW17, B27, H33, Bn38, H41, V58, B52, H65, Bo, Oc, hD_D94, Bq, hD_D104, O159, O165, H173, H179, _⟩ => x_move rfl (fr.ev rfl)) ⟨hV, B4, hW17, B27, H33, Bn38, H41, V58, B52, H65, Bo, Oc, hD_D94, Bq, hD_D104, O159, O165, H173, H179, trivial⟩ ?_
        clear fr a; intro a fr
        refine fx_take (i := 17) (v := .pointer (some ⟨b11, 0, none⟩)) fr rfl (by kernel_rfl) (fr.want rfl rfl rfl) rfl (by first | decide | simp) (fun _ _ _ h => panic_put (fn := Try.f9) (d := 124) (by decide) h) (fun _ ⟨hV, B4, hW17, B27, H33, Bn38, H41, V58, B52, H65, Bo, Oc, hD_D94, Bq, hD_D104, O159, O165, H173, H179, _⟩ => x_move rfl (fr.ev rfl)) ⟨hV, B4, hW17, B27, H33, Bn38, H41, V58, B52, H65, Bo, Oc, hD_D94, Bq, hD_D104, O159, O165, H173, H179, trivial⟩ ?_
        clear fr a; intro a fr
        refine fx_take (i := 18) (v := .agg (#[.int .i64 ((n : Nat) : Int), .int .i64 ways, .slice A56 ((putL n ways L13 q.ln).length) cap57])) fr rfl (by kernel_rfl) (fr.want rfl rfl rfl) rfl (by first | decide | simp) (fun _ _ _ h => panic_put (fn := Try.f9) (d := 125) (by decide) h) (fun _ ⟨hV, B4, hW17, B27, H33, Bn38, H41, V58, B52, H65, Bo, Oc, hD_D94, Bq, hD_D104, O159, O165, H173, H179, _⟩ => x_loadS ag28 rfl (fr.ev rfl) rfl B52.range) ⟨hV, B4, hW17, B27, H33, Bn38, H41, V58, B52, H65, Bo, Oc, hD_D94, Bq, hD_D104, O159, O165, H173, H179, trivial⟩ ?_
        clear fr a; intro a fr
        refine fx_one (i := 19) (by kernel_rfl) (fx_op rfl ?_)
        refine fx_call fr (fr.want rfl rfl rfl) rfl (by first | decide | simp) (x_call (vs := [.pointer (some ⟨b11, 0, none⟩), .agg (#[.int .i64 ((n : Nat) : Int), .int .i64 ways, .slice A56 ((putL n ways L13 q.ln).length) cap57])]) rfl rfl ⟨(fr.ev rfl), (fr.ev rfl), trivial⟩ Try.func13 nm13 rfl) (is_c H65 (V58) (by omega)) ?_
        clear fr a
        rintro v w195 ⟨rfl, hN196⟩ a fr
        replace hV := hV.new hN196
        replace B4 := B4.new hN196
        replace hW17 := hW17.new hN196
        replace B27 := B27.new hN196
        replace H33 := H33.new hN196
        replace Bn38 := Bn38.new hN196
        replace H41 := H41.new hN196
        replace V58 := V58.new hN196
        replace B52 := B52.new hN196
        replace H65 := H65.new hN196
        replace Bo := Bo.new hN196
        replace Oc := Oc.new hN196
        replace hD_D94 := hD_D94.new hN196
        replace Bq := Bq.new hN196
        replace hD_D104 := hD_D104.new hN196
        replace O159 := O159.new hN196
        replace O165 := O165.new hN196
        replace H173 := H173.new hN196
        replace H179 := H179.new hN196
        replace O187 := O187.new hN196
        replace hF := hF.trNew hN196
        refine wpList_nil ?_
        refine ⟨⟨hV, B4, hW17, B27, H33, Bn38, H41, V58, B52, H65, Bo, Oc, hD_D94, Bq, hD_D104, O159, O165, H173, H179, trivial⟩, ?_⟩
        refine fx_take (i := 20) (v := .bool true) fr rfl (by kernel_rfl) rfl rfl (by first | decide | simp) (fun _ _ _ h => panic_put (fn := Try.f9) (d := 127) (by decide) h) (fun _ ⟨hV, B4, hW17, B27, H33, Bn38, H41, V58, B52, H65, Bo, Oc, hD_D94, Bq, hD_D104, O159, O165, H173, H179, _⟩ => x_pick_t rfl (fr.ev rfl) (fr.ev rfl)) ⟨hV, B4, hW17, B27, H33, Bn38, H41, V58, B52, H65, Bo, Oc, hD_D94, Bq, hD_D104, O159, O165, H173, H179, trivial⟩ ?_
        clear fr a; intro a fr
        refine fx_take (i := 21) (v := .bool true) fr rfl (by kernel_rfl) rfl rfl (by first | decide | simp) (fun _ _ _ h => panic_put (fn := Try.f9) (d := 128) (by decide) h) (fun _ ⟨hV, B4, hW17, B27, H33, Bn38, H41, V58, B52, H65, Bo, Oc, hD_D94, Bq, hD_D104, O159, O165, H173, H179, _⟩ => x_move rfl (fr.ev rfl)) ⟨hV, B4, hW17, B27, H33, Bn38, H41, V58, B52, H65, Bo, Oc, hD_D94, Bq, hD_D104, O159, O165, H173, H179, trivial⟩ ?_
        clear fr a; intro a fr
        refine fx_take (i := 22) (v := .pointer (some ⟨b11, 0, none⟩)) fr rfl (by kernel_rfl) (fr.want rfl rfl rfl) rfl (by first | decide | simp) (fun _ _ _ h => panic_put (fn := Try.f9) (d := 129) (by decide) h) (fun _ ⟨hV, B4, hW17, B27, H33, Bn38, H41, V58, B52, H65, Bo, Oc, hD_D94, Bq, hD_D104, O159, O165, H173, H179, _⟩ => x_move rfl (fr.ev rfl)) ⟨hV, B4, hW17, B27, H33, Bn38, H41, V58, B52, H65, Bo, Oc, hD_D94, Bq, hD_D104, O159, O165, H173, H179, trivial⟩ ?_
        clear fr a; intro a fr
        refine fx_take (i := 23) (v := .pointer (some ⟨b31, 0, none⟩)) fr rfl (by kernel_rfl) (fr.want rfl rfl rfl) rfl (by first | decide | simp) (fun _ _ _ h => panic_put (fn := Try.f9) (d := 130) (by decide) h) (fun _ ⟨hV, B4, hW17, B27, H33, Bn38, H41, V58, B52, H65, Bo, Oc, hD_D94, Bq, hD_D104, O159, O165, H173, H179, _⟩ => x_move rfl (fr.ev rfl)) ⟨hV, B4, hW17, B27, H33, Bn38, H41, V58, B52, H65, Bo, Oc, hD_D94, Bq, hD_D104, O159, O165, H173, H179, trivial⟩ ?_
        clear fr a; intro a fr
        refine fx_take (i := 25) (v := .bool (decide (allL n (putL n ways L13 q.ln) = allL n L13))) fr rfl (by kernel_rfl) (fr.want rfl rfl rfl) rfl (by first | decide | simp) (fun _ _ _ h => panic_put (fn := Try.f9) (d := 132) (by decide) h) (fun _ ⟨hV, B4, hW17, B27, H33, Bn38, H41, V58, B52, H65, Bo, Oc, hD_D94, Bq, hD_D104, O159, O165, H173, H179, _⟩ => x_move rfl (fr.ev rfl)) ⟨hV, B4, hW17, B27, H33, Bn38, H41, V58, B52, H65, Bo, Oc, hD_D94, Bq, hD_D104, O159, O165, H173, H179, trivial⟩ ?_
        clear fr a; intro a fr
        refine fx_one (i := 24) (by kernel_rfl) (fx_op rfl ?_)
        refine fx_call fr (fr.want rfl rfl rfl) rfl (by first | decide | simp) (x_call (vs := [.pointer (some ⟨b11, 0, none⟩), .pointer (some ⟨b31, 0, none⟩)]) rfl rfl ⟨(fr.ev rfl), (fr.ev rfl), trivial⟩ Try.func27 nm27 rfl) (same_xx H65 H33) ?_
        clear fr a
        rintro v w197 ⟨rfl, hN198⟩ a fr
        replace hV := hV.new hN198
        replace B4 := B4.new hN198
        replace hW17 := hW17.new hN198
        replace B27 := B27.new hN198
        replace H33 := H33.new hN198
        replace Bn38 := Bn38.new hN198
        replace H41 := H41.new hN198
        replace V58 := V58.new hN198
        replace B52 := B52.new hN198
        replace H65 := H65.new hN198
        replace Bo := Bo.new hN198
        replace Oc := Oc.new hN198
        replace hD_D94 := hD_D94.new hN198
        replace Bq := Bq.new hN198
        replace hD_D104 := hD_D104.new hN198
        replace O159 := O159.new hN198
        replace O165 := O165.new hN198
        replace H173 := H173.new hN198
        replace H179 := H179.new hN198
        replace O187 := O187.new hN198
        replace hF := hF.trNew hN198
        rw [same_l (n := n) (A := putL n ways L13 q.ln) (B := L13) (w := ways)] at fr
        refine wpList_nil ?_
        refine ⟨⟨hV, B4, hW17, B27, H33, Bn38, H41, V58, B52, H65, Bo, Oc, hD_D94, Bq, hD_D104, O159, O165, H173, H179, trivial⟩, ?_⟩
        refine fx_take (i := 26) (v := .bool true) fr rfl (by kernel_rfl) (fr.want rfl rfl rfl) rfl (by first | decide | simp) (fun _ _ _ h => panic_put (fn := Try.f9) (d := 133) (by decide) h) (fun _ ⟨hV, B4, hW17, B27, H33, Bn38, H41, V58, B52, H65, Bo, Oc, hD_D94, Bq, hD_D104, O159, O165, H173, H179, _⟩ => x_beql Try.underlying4 rfl (fr.ev rfl) (fr.ev rfl) (by simp)) ⟨hV, B4, hW17, B27, H33, Bn38, H41, V58, B52, H65, Bo, Oc, hD_D94, Bq, hD_D104, O159, O165, H173, H179, trivial⟩ ?_
        clear fr a; intro a fr
        refine fx_take (i := 27) (v := .bool true) fr rfl (by kernel_rfl) rfl rfl (by first | decide | simp) (fun _ _ _ h => panic_put (fn := Try.f9) (d := 134) (by decide) h) (fun _ ⟨hV, B4, hW17, B27, H33, Bn38, H41, V58, B52, H65, Bo, Oc, hD_D94, Bq, hD_D104, O159, O165, H173, H179, _⟩ => x_pick_t rfl (fr.ev rfl) (fr.ev rfl)) ⟨hV, B4, hW17, B27, H33, Bn38, H41, V58, B52, H65, Bo, Oc, hD_D94, Bq, hD_D104, O159, O165, H173, H179, trivial⟩ ?_
        clear fr a; intro a fr
        refine fx_take (i := 28) (v := .bool true) fr rfl (by kernel_rfl) rfl rfl (by first | decide | simp) (fun _ _ _ h => panic_put (fn := Try.f9) (d := 135) (by decide) h) (fun _ ⟨hV, B4, hW17, B27, H33, Bn38, H41, V58, B52, H65, Bo, Oc, hD_D94, Bq, hD_D104, O159, O165, H173, H179, _⟩ => x_move rfl (fr.ev rfl)) ⟨hV, B4, hW17, B27, H33, Bn38, H41, V58, B52, H65, Bo, Oc, hD_D94, Bq, hD_D104, O159, O165, H173, H179, trivial⟩ ?_
        clear fr a; intro a fr
        refine fx_take (i := 29) (v := .pointer (some ⟨b31, 0, none⟩)) fr rfl (by kernel_rfl) (fr.want rfl rfl rfl) rfl (by first | decide | simp) (fun _ _ _ h => panic_put (fn := Try.f9) (d := 136) (by decide) h) (fun _ ⟨hV, B4, hW17, B27, H33, Bn38, H41, V58, B52, H65, Bo, Oc, hD_D94, Bq, hD_D104, O159, O165, H173, H179, _⟩ => x_move rfl (fr.ev rfl)) ⟨hV, B4, hW17, B27, H33, Bn38, H41, V58, B52, H65, Bo, Oc, hD_D94, Bq, hD_D104, O159, O165, H173, H179, trivial⟩ ?_
        clear fr a; intro a fr
        refine fx_take (i := 30) (v := .pointer (some ⟨b11, 0, none⟩)) fr rfl (by kernel_rfl) (fr.want rfl rfl rfl) rfl (by first | decide | simp) (fun _ _ _ h => panic_put (fn := Try.f9) (d := 137) (by decide) h) (fun _ ⟨hV, B4, hW17, B27, H33, Bn38, H41, V58, B52, H65, Bo, Oc, hD_D94, Bq, hD_D104, O159, O165, H173, H179, _⟩ => x_move rfl (fr.ev rfl)) ⟨hV, B4, hW17, B27, H33, Bn38, H41, V58, B52, H65, Bo, Oc, hD_D94, Bq, hD_D104, O159, O165, H173, H179, trivial⟩ ?_
        clear fr a; intro a fr
        refine fx_take (i := 32) (v := .bool (decide (allL n (putL n ways L13 q.ln) = allL n L13))) fr rfl (by kernel_rfl) (fr.want rfl rfl rfl) rfl (by first | decide | simp) (fun _ _ _ h => panic_put (fn := Try.f9) (d := 139) (by decide) h) (fun _ ⟨hV, B4, hW17, B27, H33, Bn38, H41, V58, B52, H65, Bo, Oc, hD_D94, Bq, hD_D104, O159, O165, H173, H179, _⟩ => x_move rfl (fr.ev rfl)) ⟨hV, B4, hW17, B27, H33, Bn38, H41, V58, B52, H65, Bo, Oc, hD_D94, Bq, hD_D104, O159, O165, H173, H179, trivial⟩ ?_
        clear fr a; intro a fr
        refine fx_one (i := 31) (by kernel_rfl) (fx_op rfl ?_)
        refine fx_call fr (fr.want rfl rfl rfl) rfl (by first | decide | simp) (x_call (vs := [.pointer (some ⟨b31, 0, none⟩), .pointer (some ⟨b11, 0, none⟩)]) rfl rfl ⟨(fr.ev rfl), (fr.ev rfl), trivial⟩ Try.func27 nm27 rfl) (same_xx H33 H65) ?_
        clear fr a
        rintro v w199 ⟨rfl, hN200⟩ a fr
        replace hV := hV.new hN200
        replace B4 := B4.new hN200
        replace hW17 := hW17.new hN200
        replace B27 := B27.new hN200
        replace H33 := H33.new hN200
        replace Bn38 := Bn38.new hN200
        replace H41 := H41.new hN200
        replace V58 := V58.new hN200
        replace B52 := B52.new hN200
        replace H65 := H65.new hN200
        replace Bo := Bo.new hN200
        replace Oc := Oc.new hN200
        replace hD_D94 := hD_D94.new hN200
        replace Bq := Bq.new hN200
        replace hD_D104 := hD_D104.new hN200
        replace O159 := O159.new hN200
        replace O165 := O165.new hN200
        replace H173 := H173.new hN200
        replace H179 := H179.new hN200
        replace O187 := O187.new hN200
        replace hF := hF.trNew hN200
        rw [same_r (n := n) (A := L13) (B := putL n ways L13 q.ln) (w := ways)] at fr
        refine wpList_nil ?_
        refine ⟨⟨hV, B4, hW17, B27, H33, Bn38, H41, V58, B52, H65, Bo, Oc, hD_D94, Bq, hD_D104, O159, O165, H173, H179, trivial⟩, ?_⟩
        refine fx_take (i := 33) (v := .bool true) fr rfl (by kernel_rfl) (fr.want rfl rfl rfl) rfl (by first | decide | simp) (fun _ _ _ h => panic_put (fn := Try.f9) (d := 140) (by decide) h) (fun _ ⟨hV, B4, hW17, B27, H33, Bn38, H41, V58, B52, H65, Bo, Oc, hD_D94, Bq, hD_D104, O159, O165, H173, H179, _⟩ => x_beql Try.underlying4 rfl (fr.ev rfl) (fr.ev rfl) (by simp)) ⟨hV, B4, hW17, B27, H33, Bn38, H41, V58, B52, H65, Bo, Oc, hD_D94, Bq, hD_D104, O159, O165, H173, H179, trivial⟩ ?_
        clear fr a; intro a fr
        refine fx_take (i := 34) (v := .bool true) fr rfl (by kernel_rfl) rfl rfl (by first | decide | simp) (fun _ _ _ h => panic_put (fn := Try.f9) (d := 141) (by decide) h) (fun _ ⟨hV, B4, hW17, B27, H33, Bn38, H41, V58, B52, H65, Bo, Oc, hD_D94, Bq, hD_D104, O159, O165, H173, H179, _⟩ => x_pick_t rfl (fr.ev rfl) (fr.ev rfl)) ⟨hV, B4, hW17, B27, H33, Bn38, H41, V58, B52, H65, Bo, Oc, hD_D94, Bq, hD_D104, O159, O165, H173, H179, trivial⟩ ?_
        clear fr a; intro a fr
        refine fx_take (i := 35) (v := .bool true) fr rfl (by kernel_rfl) rfl rfl (by first | decide | simp) (fun _ _ _ h => panic_put (fn := Try.f9) (d := 142) (by decide) h) (fun _ ⟨hV, B4, hW17, B27, H33, Bn38, H41, V58, B52, H65, Bo, Oc, hD_D94, Bq, hD_D104, O159, O165, H173, H179, _⟩ => x_move rfl (fr.ev rfl)) ⟨hV, B4, hW17, B27, H33, Bn38, H41, V58, B52, H65, Bo, Oc, hD_D94, Bq, hD_D104, O159, O165, H173, H179, trivial⟩ ?_
        clear fr a; intro a fr
        refine fx_take (i := 36) (v := .pointer (some ⟨b171, 0, none⟩)) fr rfl (by kernel_rfl) (fr.want rfl rfl rfl) rfl (by first | decide | simp) (fun _ _ _ h => panic_put (fn := Try.f9) (d := 143) (by decide) h) (fun _ ⟨hV, B4, hW17, B27, H33, Bn38, H41, V58, B52, H65, Bo, Oc, hD_D94, Bq, hD_D104, O159, O165, H173, H179, _⟩ => x_move rfl (fr.ev rfl)) ⟨hV, B4, hW17, B27, H33, Bn38, H41, V58, B52, H65, Bo, Oc, hD_D94, Bq, hD_D104, O159, O165, H173, H179, trivial⟩ ?_
        clear fr a; intro a fr
        refine fx_take (i := 37) (v := .pointer (some ⟨b177, 0, none⟩)) fr rfl (by kernel_rfl) (fr.want rfl rfl rfl) rfl (by first | decide | simp) (fun _ _ _ h => panic_put (fn := Try.f9) (d := 144) (by decide) h) (fun _ ⟨hV, B4, hW17, B27, H33, Bn38, H41, V58, B52, H65, Bo, Oc, hD_D94, Bq, hD_D104, O159, O165, H173, H179, _⟩ => x_move rfl (fr.ev rfl)) ⟨hV, B4, hW17, B27, H33, Bn38, H41, V58, B52, H65, Bo, Oc, hD_D94, Bq, hD_D104, O159, O165, H173, H179, trivial⟩ ?_
        clear fr a; intro a fr
        refine fx_take (i := 39) (v := .int .i64 ways) fr rfl (by kernel_rfl) (fr.want rfl rfl rfl) rfl (by first | decide | simp) (fun _ _ _ h => panic_put (fn := Try.f9) (d := 146) (by decide) h) (fun _ ⟨hV, B4, hW17, B27, H33, Bn38, H41, V58, B52, H65, Bo, Oc, hD_D94, Bq, hD_D104, O159, O165, H173, H179, _⟩ => x_move rfl (fr.ev rfl)) ⟨hV, B4, hW17, B27, H33, Bn38, H41, V58, B52, H65, Bo, Oc, hD_D94, Bq, hD_D104, O159, O165, H173, H179, trivial⟩ ?_
        clear fr a; intro a fr
        refine fx_take (i := 40) (v := .int .i64 (Int.tmod ways 8)) fr rfl (by kernel_rfl) (fr.want rfl rfl rfl) rfl (by first | decide | simp) (fun _ _ _ h => panic_put (fn := Try.f9) (d := 147) (by decide) h) (fun _ ⟨hV, B4, hW17, B27, H33, Bn38, H41, V58, B52, H65, Bo, Oc, hD_D94, Bq, hD_D104, O159, O165, H173, H179, _⟩ => x_rem rfl (fr.ev rfl) rfl (by decide) rfl) ⟨hV, B4, hW17, B27, H33, Bn38, H41, V58, B52, H65, Bo, Oc, hD_D94, Bq, hD_D104, O159, O165, H173, H179, trivial⟩ ?_
        clear fr a; intro a fr
        refine fx_take (i := 41) (v := .int .i64 (Int.tmod ways 8 + 1)) fr rfl (by kernel_rfl) (fr.want rfl rfl rfl) rfl (by first | decide | simp) (fun _ _ _ h => panic_put (fn := Try.f9) (d := 148) (by decide) h) (fun _ ⟨hV, B4, hW17, B27, H33, Bn38, H41, V58, B52, H65, Bo, Oc, hD_D94, Bq, hD_D104, O159, O165, H173, H179, _⟩ => x_add rfl (fr.ev rfl) rfl (i64w (r := Int.tmod ways 8 + 1) (by omega) (by omega))) ⟨hV, B4, hW17, B27, H33, Bn38, H41, V58, B52, H65, Bo, Oc, hD_D94, Bq, hD_D104, O159, O165, H173, H179, trivial⟩ ?_
        clear fr a; intro a fr
        refine fx_take (i := 42) (v := .int .i64 ways) fr rfl (by kernel_rfl) (fr.want rfl rfl rfl) rfl (by first | decide | simp) (fun _ _ _ h => panic_put (fn := Try.f9) (d := 149) (by decide) h) (fun _ ⟨hV, B4, hW17, B27, H33, Bn38, H41, V58, B52, H65, Bo, Oc, hD_D94, Bq, hD_D104, O159, O165, H173, H179, _⟩ => x_move rfl (fr.ev rfl)) ⟨hV, B4, hW17, B27, H33, Bn38, H41, V58, B52, H65, Bo, Oc, hD_D94, Bq, hD_D104, O159, O165, H173, H179, trivial⟩ ?_
        clear fr a; intro a fr
        refine fx_take (i := 43) (v := .bool (decide (Int.tmod ways 8 + 1 = ways))) fr rfl (by kernel_rfl) (fr.want rfl rfl rfl) rfl (by first | decide | simp) (fun _ _ _ h => panic_put (fn := Try.f9) (d := 150) (by decide) h) (fun _ ⟨hV, B4, hW17, B27, H33, Bn38, H41, V58, B52, H65, Bo, Oc, hD_D94, Bq, hD_D104, O159, O165, H173, H179, _⟩ => x_eql rfl (fr.ev rfl) (fr.ev rfl) rfl) ⟨hV, B4, hW17, B27, H33, Bn38, H41, V58, B52, H65, Bo, Oc, hD_D94, Bq, hD_D104, O159, O165, H173, H179, trivial⟩ ?_
        clear fr a; intro a fr
        refine fx_one (i := 38) (by kernel_rfl) (fx_op rfl ?_)
        refine fx_call fr (fr.want rfl rfl rfl) rfl (by first | decide | simp) (x_call (vs := [.pointer (some ⟨b171, 0, none⟩), .pointer (some ⟨b177, 0, none⟩)]) rfl rfl ⟨(fr.ev rfl), (fr.ev rfl), trivial⟩ Try.func27 nm27 rfl) (same_xx H173 H179) ?_
        clear fr a
        rintro v w201 ⟨rfl, hN202⟩ a fr
        replace hV := hV.new hN202
        replace B4 := B4.new hN202
        replace hW17 := hW17.new hN202
        replace B27 := B27.new hN202
        replace H33 := H33.new hN202
        replace Bn38 := Bn38.new hN202
        replace H41 := H41.new hN202
        replace V58 := V58.new hN202
        replace B52 := B52.new hN202
        replace H65 := H65.new hN202
        replace Bo := Bo.new hN202
        replace Oc := Oc.new hN202
        replace hD_D94 := hD_D94.new hN202
        replace Bq := Bq.new hN202
        replace hD_D104 := hD_D104.new hN202
        replace O159 := O159.new hN202
        replace O165 := O165.new hN202
        replace H173 := H173.new hN202
        replace H179 := H179.new hN202
        replace O187 := O187.new hN202
        replace hF := hF.trNew hN202
        rw [same_w (n := n) (A := []) (w := Int.tmod ways 8 + 1) (v := ways)] at fr
        refine wpList_nil ?_
        refine ⟨⟨hV, B4, hW17, B27, H33, Bn38, H41, V58, B52, H65, Bo, Oc, hD_D94, Bq, hD_D104, O159, O165, H173, H179, trivial⟩, ?_⟩
        refine fx_take (i := 44) (v := .bool true) fr rfl (by kernel_rfl) (fr.want rfl rfl rfl) rfl (by first | decide | simp) (fun _ _ _ h => panic_put (fn := Try.f9) (d := 151) (by decide) h) (fun _ ⟨hV, B4, hW17, B27, H33, Bn38, H41, V58, B52, H65, Bo, Oc, hD_D94, Bq, hD_D104, O159, O165, H173, H179, _⟩ => x_beql Try.underlying4 rfl (fr.ev rfl) (fr.ev rfl) (by simp)) ⟨hV, B4, hW17, B27, H33, Bn38, H41, V58, B52, H65, Bo, Oc, hD_D94, Bq, hD_D104, O159, O165, H173, H179, trivial⟩ ?_
        clear fr a; intro a fr
        refine fx_take (i := 45) (v := .bool true) fr rfl (by kernel_rfl) rfl rfl (by first | decide | simp) (fun _ _ _ h => panic_put (fn := Try.f9) (d := 152) (by decide) h) (fun _ ⟨hV, B4, hW17, B27, H33, Bn38, H41, V58, B52, H65, Bo, Oc, hD_D94, Bq, hD_D104, O159, O165, H173, H179, _⟩ => x_pick_t rfl (fr.ev rfl) (fr.ev rfl)) ⟨hV, B4, hW17, B27, H33, Bn38, H41, V58, B52, H65, Bo, Oc, hD_D94, Bq, hD_D104, O159, O165, H173, H179, trivial⟩ ?_
        clear fr a; intro a fr
        refine fx_take (i := 46) (v := .bool true) fr rfl (by kernel_rfl) rfl rfl (by first | decide | simp) (fun _ _ _ h => panic_put (fn := Try.f9) (d := 153) (by decide) h) (fun _ ⟨hV, B4, hW17, B27, H33, Bn38, H41, V58, B52, H65, Bo, Oc, hD_D94, Bq, hD_D104, O159, O165, H173, H179, _⟩ => x_move rfl (fr.ev rfl)) ⟨hV, B4, hW17, B27, H33, Bn38, H41, V58, B52, H65, Bo, Oc, hD_D94, Bq, hD_D104, O159, O165, H173, H179, trivial⟩ ?_
        clear fr a; intro a fr
        refine fx_one (i := 47) (by kernel_rfl) (fx_op rfl ?_)
        refine fx_call fr (fr.want rfl rfl rfl) rfl (by first | decide | simp) (x_call (vs := []) rfl rfl trivial Try.func11 nm11 rfl) (works_c _) ?_
        clear fr a
        rintro v w203 ⟨rfl, hN204⟩ a fr
        replace hV := hV.new hN204
        replace B4 := B4.new hN204
        replace hW17 := hW17.new hN204
        replace B27 := B27.new hN204
        replace H33 := H33.new hN204
        replace Bn38 := Bn38.new hN204
        replace H41 := H41.new hN204
        replace V58 := V58.new hN204
        replace B52 := B52.new hN204
        replace H65 := H65.new hN204
        replace Bo := Bo.new hN204
        replace Oc := Oc.new hN204
        replace hD_D94 := hD_D94.new hN204
        replace Bq := Bq.new hN204
        replace hD_D104 := hD_D104.new hN204
        replace O159 := O159.new hN204
        replace O165 := O165.new hN204
        replace H173 := H173.new hN204
        replace H179 := H179.new hN204
        replace O187 := O187.new hN204
        replace hF := hF.trNew hN204
        refine wpList_nil ?_
        refine ⟨⟨hV, B4, hW17, B27, H33, Bn38, H41, V58, B52, H65, Bo, Oc, hD_D94, Bq, hD_D104, O159, O165, H173, H179, trivial⟩, ?_⟩
        refine fx_take (i := 48) (v := .bool true) fr rfl (by kernel_rfl) rfl rfl (by first | decide | simp) (fun _ _ _ h => panic_put (fn := Try.f9) (d := 155) (by decide) h) (fun _ ⟨hV, B4, hW17, B27, H33, Bn38, H41, V58, B52, H65, Bo, Oc, hD_D94, Bq, hD_D104, O159, O165, H173, H179, _⟩ => x_pick_t rfl (fr.ev rfl) (fr.ev rfl)) ⟨hV, B4, hW17, B27, H33, Bn38, H41, V58, B52, H65, Bo, Oc, hD_D94, Bq, hD_D104, O159, O165, H173, H179, trivial⟩ ?_
        clear fr a; intro a fr
        refine fx_hdone (by kernel_rfl) ?_
        refine fx_tail ?_
        refine fx_val (v := .bool true) fr rfl rfl (by first | decide | simp) (x_assign rfl (fr.ev rfl)) ?_
        clear fr a; intro a fr
        refine wpList_nil ?_
        refine fx_next ?_
        refine wp_ret ?_
        refine fx_retM2 fr g_D94 g_D104 nem_D104_D94 hD_D94 hD_D104 [.tmp 8] [.bool true] rfl rfl ?_
        intro wE hT
        replace hV := hV.turn hT
        replace B4 := B4.turn hT
        replace hW17 := hW17.turn hT
        replace B27 := B27.turn hT
        replace H33 := H33.turn hT
        replace Bn38 := Bn38.turn hT
        replace H41 := H41.turn hT
        replace V58 := V58.turn hT
        replace B52 := B52.turn hT
        replace H65 := H65.turn hT
        replace Bo := Bo.turn hT
        replace Oc := Oc.turn hT
        replace Bq := Bq.turn hT
        replace O159 := O159.turn hT
        replace O165 := O165.turn hT
        replace H173 := H173.turn hT
        replace H179 := H179.turn hT
        replace O187 := O187.turn hT
        replace hF := hF.turn hT (Nat.le_refl _)
        refine ⟨⟨rfl, trivial⟩, ?_⟩
        exact ⟨_, rfl, rfl, hF⟩
    · skip
      exact fun _ _ _ _ _ _ h _ _ _ => h.elim
end Go.Proofs.Ytdjgfkjcpalihaa
