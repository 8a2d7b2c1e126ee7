/-
  NetCopies. Printed by gen_m.py.
-/
import Derived.Test.YtdpkeabmfhnfiaaNetL
import Derived.Test.YtdpkeabmfhnfiaaFXne
namespace Go.Proofs.Ytdpkeabmfhnfiaa
open Go.RowKit

set_option maxRecDepth 100000 in
set_option maxHeartbeats 40000000 in
theorem copies_c {w : World} {P : Option Addr} {cp : Nat} {la : List NAct} (most : Int) (hV : View actE w P cp la) (x : NAct) : Calls Try.prog 9 #[.int .i64 most, .slice P la.length cp, .agg (actE.arr x)] w (Ret fun v w' => v = .bool true ∧ New w w') := by
  have hF := Only.refl (fun _ => False) w
  refine fx_enter Try.func9 rfl (N := (188, [])) (T := [(0, .int .i64 most), (1, .slice P la.length cp), (2, .agg (actE.arr x))]) rfl (show 3 ≤ 188 by decide) ⟨rfl, rfl, rfl, trivial⟩ fun a fr => ?_
  refine wp_seq ?_
  refine wp_region_lit ?_  -- region 0
  refine fx_new fr rfl rfl (by first | decide | simp) (x_box (cs := actE.arr x) rfl (fr.ev rfl) rfl) ?_
  clear fr a
  intro b1 w2 hN3 B4 hb5 a fr
  have ap_P_b1 : Apart P b1 := hV.apart hb5
  have g_b1 := Nat.le_trans hF.size hb5
  replace hV := hV.new hN3
  replace hF := hF.trNew hN3
  refine fx_val (v := .bool false) fr rfl rfl (by first | decide | simp) (x_assign rfl rfl) ?_
  clear fr a; intro a fr
  refine wpList_nil ?_
  refine fx_next ?_
  refine wp_seq ?_
  refine wp_seq ?_
  refine wp_region_lit ?_  -- region 1
  refine fx_val (v := .int .i64 most) fr rfl rfl (by first | decide | simp) (x_move rfl (fr.ev rfl)) ?_
  clear fr a; intro a fr
  refine fx_val (v := .bool (decide (most < 1))) fr rfl rfl (by first | decide | simp) (x_lss rfl (fr.ev rfl) rfl rfl) ?_
  clear fr a; intro a fr
  refine fx_val (v := .bool (decide (most < 1))) fr rfl rfl (by first | decide | simp) (x_move rfl (fr.ev rfl)) ?_
  clear fr a; intro a fr
  refine fx_may (g := !(decide (most < 1))) (v := .int .i64 most) fr rfl rfl rfl (by simp) rfl (by first | decide | simp) (fun hg => x_move rfl (fr.ev rfl)) ?_
  clear fr a; intro a fr
  refine fx_may (g := !(decide (most < 1))) (v := .bool (decide (1024 < most))) fr rfl rfl rfl (by simp) rfl (by first | decide | simp) (fun hg => x_gtr rfl ((fr.ev rfl).trans (onlyIf_t hg)) rfl rfl) ?_
  clear fr a; intro a fr
  refine fx_val (v := .bool ((decide (most < 1)) || (decide (1024 < most)))) fr rfl rfl (by first | decide | simp) (x_pick_or rfl (fr.ev rfl) (fun _ => rfl) (fun hb => ((fr.ev rfl)).trans (onlyIf_t (by simp_all))) rfl) ?_
  clear fr a; intro a fr
  refine fx_val (v := .bool ((decide (most < 1)) || (decide (1024 < most)))) fr rfl rfl (by first | decide | simp) (x_move rfl (fr.ev rfl)) ?_
  clear fr a; intro a fr
  refine fx_may (g := !((decide (most < 1)) || (decide (1024 < most)))) (v := .slice P la.length cp) fr rfl rfl rfl (by simp) rfl (by first | decide | simp) (fun hg => x_move rfl (fr.ev rfl)) ?_
  clear fr a; intro a fr
  refine fx_may (g := !((decide (most < 1)) || (decide (1024 < most)))) (v := .int .i64 ((la.length : Nat) : Int)) fr rfl rfl rfl (by simp) rfl (by first | decide | simp) (fun hg => x_len Try.underlying33 rfl ((fr.ev rfl).trans (onlyIf_t hg))) ?_
  clear fr a; intro a fr
  refine fx_may (g := !((decide (most < 1)) || (decide (1024 < most)))) (v := .bool (decide (100 < ((la.length : Nat) : Int)))) fr rfl rfl rfl (by simp) rfl (by first | decide | simp) (fun hg => x_gtr rfl ((fr.ev rfl).trans (onlyIf_t hg)) rfl rfl) ?_
  clear fr a; intro a fr
  refine fx_val (v := .bool (((decide (most < 1)) || (decide (1024 < most))) || (decide (100 < ((la.length : Nat) : Int))))) fr rfl rfl (by first | decide | simp) (x_pick_or rfl (fr.ev rfl) (fun _ => rfl) (fun hb => ((fr.ev rfl)).trans (onlyIf_t (by simp_all))) rfl) ?_
  clear fr a; intro a fr
  refine wpList_nil ?_
  refine fx_next ?_
  refine fx_cond fr rfl (fun hc6 => ?_) (fun hc6 => ?_)
  · skip
    refine wp_seq ?_
    refine wp_region_lit ?_  -- region 2
    refine fx_call fr rfl rfl (by first | decide | simp) (x_call (vs := []) rfl rfl trivial Try.func13 nm13 rfl) (works_c _) ?_
    clear fr a
    rintro v w7 ⟨rfl, hN8⟩ a fr
    replace hV := hV.new hN8
    replace B4 := B4.new hN8
    replace hF := hF.trNew hN8
    refine fx_val (v := .bool true) fr rfl rfl (by first | decide | simp) (x_assign rfl (fr.ev rfl)) ?_
    clear fr a; intro a fr
    refine wpList_nil ?_
    refine fx_next ?_
    refine wp_ret ?_
    refine fx_rt ?_
    refine fx_ret fr [.tmp 6] [.bool true] rfl ⟨rfl, trivial⟩ rfl ?_
    exact ⟨_, rfl, rfl, hF⟩
  · skip
    refine wp_skip ?_
    refine fx_next ?_
    refine wp_seq ?_
    have hq := hc6
    simp at hq
    refine wp_region_lit ?_  -- region 3
    refine fx_val (v := .int .i64 most) fr rfl rfl (by first | decide | simp) (x_move rfl (fr.ev rfl)) ?_
    clear fr a; intro a fr
    refine fx_val (v := .slice P la.length cp) fr rfl rfl (by first | decide | simp) (x_move rfl (fr.ev rfl)) ?_
    clear fr a; intro a fr
    refine fx_call fr rfl rfl (by first | decide | simp) (x_call (vs := [.int .i64 most, .slice P la.length cp]) rfl rfl ⟨(fr.ev rfl), (fr.ev rfl), trivial⟩ Try.func21 nm21 rfl) (played_c (hV) (by omega) (by omega) (by omega)) ?_
    clear fr a
    rintro v w23 ⟨b9, A10, cap11, l12, V13, vc14, rfl, H15, hW16, hl22, hb17, hA18, hV19, q20, q21, hN24⟩ a fr
    have ap_P_b9 : Apart P b9 := hV.apart hb17
    have ne_b1_b9 : NE b1 b9 := NE.mk (Nat.lt_of_lt_of_le B4.lt hb17)
    have g_b9 := Nat.le_trans hF.size hb17
    have ap2_P_A10 : Apart2 P A10 := (new_apart2 hA18 fun _ hg => hV.lt hg).symm
    have ap_A10_b1 : Apart A10 b1 := new_apart hA18 B4.lt
    have gA_A10 := gA_new hF hA18
    have ap2_P_V13 : Apart2 P V13 := (new_apart2 hV19 fun _ hg => hV.lt hg).symm
    have ap_V13_b1 : Apart V13 b1 := new_apart hV19 B4.lt
    have gA_V13 := gA_new hF hV19
    replace hV := hV.new hN24
    replace B4 := B4.new hN24
    replace hF := hF.trNew hN24
    have ap_V13_b9 := q20
    have ap2_A10_V13 := q21
    refine fx_val (v := .tuple #[.pointer (some ⟨b9, 0, none⟩), .agg (#[.int .i64 most, .slice V13 l12.length vc14]), .bool true]) fr rfl rfl (by first | decide | simp) (x_move rfl (fr.ev rfl)) ?_
    clear fr a; intro a fr
    refine fx_val (v := .pointer (some ⟨b9, 0, none⟩)) fr rfl rfl (by first | decide | simp) (x_extract rfl (fr.ev rfl) rfl) ?_
    clear fr a; intro a fr
    refine fx_val (v := .agg (#[.int .i64 most, .slice V13 l12.length vc14])) fr rfl rfl (by first | decide | simp) (x_extract rfl (fr.ev rfl) rfl) ?_
    clear fr a; intro a fr
    refine fx_val (v := .bool true) fr rfl rfl (by first | decide | simp) (x_extract rfl (fr.ev rfl) rfl) ?_
    clear fr a; intro a fr
    refine fx_new fr rfl rfl (by first | decide | simp) (x_alloc (z := .agg (#[.int .i64 0, .slice none 0 0])) (cs := #[.int .i64 0, .slice none 0 0]) rfl (by kernel_rfl) rfl) ?_
    clear fr a
    intro b25 w26 hN27 B28 hb29 a fr
    have ap_P_b25 : Apart P b25 := hV.apart hb29
    have ne_b1_b25 : NE b1 b25 := NE.mk (Nat.lt_of_lt_of_le B4.lt hb29)
    have ne_b9_b25 : NE b9 b25 := NE.mk (Nat.lt_of_lt_of_le H15.ltb hb29)
    have ap_A10_b25 : Apart A10 b25 := H15.apart hb29
    have ap_V13_b25 : Apart V13 b25 := hW16.apart hb29
    have g_b25 := Nat.le_trans hF.size hb29
    replace hV := hV.new hN27
    replace B4 := B4.new hN27
    replace H15 := H15.new hN27
    replace hW16 := hW16.new hN27
    replace hF := hF.trNew hN27
    refine fx_val (v := .pointer (some ⟨b9, 0, none⟩)) fr rfl rfl (by first | decide | simp) (x_assign rfl (fr.ev rfl)) ?_
    clear fr a; intro a fr
    refine fx_storeS sz49 rfl rfl rfl (fr.ev rfl) (fr.ev rfl) (by simp [Value.oneCell']) B28 rfl rfl fun w30 hO31 hBq => ?_
    replace hV := hV.only hO31 (Apart.ne1 ap_P_b25)
    replace B4 := B4.only hO31 (by first | exact ne_b1_b25 | exact ne_b25_b1.symm | (show ¬ b1 = b25; omega))
    replace H15 := H15.only hO31 (by first | exact ne_b9_b25 | exact ne_b25_b9.symm | (show ¬ b9 = b25; omega)) (Apart.ne1 ap_A10_b25)
    replace hW16 := hW16.only hO31 (Apart.ne1 ap_V13_b25)
    replace hF := hF.loc hO31 (.inr g_b25)
    replace B28 := hBq
    clear hBq
    refine fx_val (v := .bool true) fr rfl rfl (by first | decide | simp) (x_assign rfl (fr.ev rfl)) ?_
    clear fr a; intro a fr
    refine wpList_nil ?_
    refine fx_next ?_
    refine wp_seq ?_
    refine wp_region_lit ?_  -- region 4
    refine fx_val (v := .pointer (some ⟨b9, 0, none⟩)) fr rfl rfl (by first | decide | simp) (x_move rfl (fr.ev rfl)) ?_
    clear fr a; intro a fr
    refine fx_call fr rfl rfl (by first | decide | simp) (x_call (vs := [.pointer (some ⟨b9, 0, none⟩)]) rfl rfl ⟨(fr.ev rfl), trivial⟩ Try.func26 nm26 rfl) (copy_c H15 (by omega) (by omega)) ?_
    clear fr a
    rintro v w38 ⟨b32, A33, cap34, rfl, H35, hb36, hA37, hN39⟩ a fr
    have ap_P_b32 : Apart P b32 := hV.apart hb36
    have ne_b1_b32 : NE b1 b32 := NE.mk (Nat.lt_of_lt_of_le B4.lt hb36)
    have ne_b9_b32 : NE b9 b32 := NE.mk (Nat.lt_of_lt_of_le H15.ltb hb36)
    have ap_A10_b32 : Apart A10 b32 := H15.apart hb36
    have ap_V13_b32 : Apart V13 b32 := hW16.apart hb36
    have ne_b25_b32 : NE b25 b32 := NE.mk (Nat.lt_of_lt_of_le B28.lt hb36)
    have g_b32 := Nat.le_trans hF.size hb36
    have ap2_P_A33 : Apart2 P A33 := (new_apart2 hA37 fun _ hg => hV.lt hg).symm
    have ap_A33_b1 : Apart A33 b1 := new_apart hA37 B4.lt
    have ap_A33_b9 : Apart A33 b9 := new_apart hA37 H15.ltb
    have ap2_A10_A33 : Apart2 A10 A33 := (new_apart2 hA37 fun _ hg => H15.lt hg).symm
    have ap2_V13_A33 : Apart2 V13 A33 := (new_apart2 hA37 fun _ hg => hW16.lt hg).symm
    have ap_A33_b25 : Apart A33 b25 := new_apart hA37 B28.lt
    have gA_A33 := gA_new hF hA37
    replace hV := hV.new hN39
    replace B4 := B4.new hN39
    replace H15 := H15.new hN39
    replace hW16 := hW16.new hN39
    replace B28 := B28.new hN39
    replace hF := hF.trNew hN39
    refine fx_val (v := .pointer (some ⟨b32, 0, none⟩)) fr rfl rfl (by first | decide | simp) (x_assign rfl (fr.ev rfl)) ?_
    clear fr a; intro a fr
    refine wpList_nil ?_
    refine fx_next ?_
    refine wp_seq ?_
    refine wp_seq ?_
    refine wp_region_lit ?_  -- region 5
    refine fx_val (v := .bool true) fr rfl rfl (by first | decide | simp) (x_move rfl (fr.ev rfl)) ?_
    clear fr a; intro a fr
    refine fx_val (v := .bool false) fr rfl rfl (by first | decide | simp) (x_not rfl (fr.ev rfl) rfl) ?_
    clear fr a; intro a fr
    refine fx_val (v := .bool false) fr rfl rfl (by first | decide | simp) (x_move rfl (fr.ev rfl)) ?_
    clear fr a; intro a fr
    refine fx_val (v := .pointer (some ⟨b9, 0, none⟩)) fr (fr.want rfl rfl rfl) rfl (by first | decide | simp) (x_move rfl (fr.ev rfl)) ?_
    clear fr a; intro a fr
    refine fx_val (v := .pointer (some ⟨b32, 0, none⟩)) fr (fr.want rfl rfl rfl) rfl (by first | decide | simp) (x_move rfl (fr.ev rfl)) ?_
    clear fr a; intro a fr
    refine fx_call fr (fr.want rfl rfl rfl) rfl (by first | decide | simp) (x_call (vs := [.pointer (some ⟨b9, 0, none⟩), .pointer (some ⟨b32, 0, none⟩)]) rfl rfl ⟨(fr.ev rfl), (fr.ev rfl), trivial⟩ Try.func27 nm27 rfl) (same_xx H15 H35 (by omega) (by omega)) ?_
    clear fr a
    rintro v w40 ⟨rfl, hN41⟩ a fr
    replace hV := hV.new hN41
    replace B4 := B4.new hN41
    replace H15 := H15.new hN41
    replace hW16 := hW16.new hN41
    replace B28 := B28.new hN41
    replace H35 := H35.new hN41
    replace hF := hF.trNew hN41
    rw [show (decide (most = most) && decide ((l12 : List Msg) = l12)) = true from by simp] at fr
    refine fx_val (v := .bool false) fr (fr.want rfl rfl rfl) rfl (by first | decide | simp) (x_not rfl (fr.ev rfl) rfl) ?_
    clear fr a; intro a fr
    refine fx_val (v := .bool false) fr rfl rfl (by first | decide | simp) (x_pick_f rfl (fr.ev rfl) (fr.ev rfl)) ?_
    clear fr a; intro a fr
    refine wpList_nil ?_
    refine fx_next ?_
    refine fx_cond_f fr rfl ?_
    refine wp_skip ?_
    refine fx_next ?_
    refine wp_seq ?_
    refine wp_region_lit ?_  -- region 7
    refine fx_val (v := .agg (#[.int .i64 most, .slice V13 l12.length vc14])) fr rfl rfl (by first | decide | simp) (x_loadS ag49 rfl (fr.ev rfl) rfl B28.range) ?_
    clear fr a; intro a fr
    refine fx_new fr rfl rfl (by first | decide | simp) (x_alloc (z := .agg (#[.int .i64 0, .slice none 0 0])) (cs := #[.int .i64 0, .slice none 0 0]) rfl (by kernel_rfl) rfl) ?_
    clear fr a
    intro b42 w43 hN44 B45 hb46 a fr
    have ap_P_b42 : Apart P b42 := hV.apart hb46
    have ne_b1_b42 : NE b1 b42 := NE.mk (Nat.lt_of_lt_of_le B4.lt hb46)
    have ne_b9_b42 : NE b9 b42 := NE.mk (Nat.lt_of_lt_of_le H15.ltb hb46)
    have ap_A10_b42 : Apart A10 b42 := H15.apart hb46
    have ap_V13_b42 : Apart V13 b42 := hW16.apart hb46
    have ne_b25_b42 : NE b25 b42 := NE.mk (Nat.lt_of_lt_of_le B28.lt hb46)
    have ne_b32_b42 : NE b32 b42 := NE.mk (Nat.lt_of_lt_of_le H35.ltb hb46)
    have ap_A33_b42 : Apart A33 b42 := H35.apart hb46
    have g_b42 := Nat.le_trans hF.size hb46
    replace hV := hV.new hN44
    replace B4 := B4.new hN44
    replace H15 := H15.new hN44
    replace hW16 := hW16.new hN44
    replace B28 := B28.new hN44
    replace H35 := H35.new hN44
    replace hF := hF.trNew hN44
    refine fx_storeS sz49 rfl rfl rfl (fr.ev rfl) (fr.ev rfl) (by simp [Value.oneCell']) B45 rfl rfl fun w47 hO48 hBq => ?_
    replace hV := hV.only hO48 (Apart.ne1 ap_P_b42)
    replace B4 := B4.only hO48 (by first | exact ne_b1_b42 | exact ne_b42_b1.symm | (show ¬ b1 = b42; omega))
    replace H15 := H15.only hO48 (by first | exact ne_b9_b42 | exact ne_b42_b9.symm | (show ¬ b9 = b42; omega)) (Apart.ne1 ap_A10_b42)
    replace hW16 := hW16.only hO48 (Apart.ne1 ap_V13_b42)
    replace B28 := B28.only hO48 (by first | exact ne_b25_b42 | exact ne_b42_b25.symm | (show ¬ b25 = b42; omega))
    replace H35 := H35.only hO48 (by first | exact ne_b32_b42 | exact ne_b42_b32.symm | (show ¬ b32 = b42; omega)) (Apart.ne1 ap_A33_b42)
    replace hF := hF.loc hO48 (.inr g_b42)
    replace B45 := hBq
    clear hBq
    refine wpList_nil ?_
    refine fx_next ?_
    refine wp_seq ?_
    refine wp_region_lit ?_  -- region 8
    refine fx_val (v := .pointer (some ⟨b9, 0, none⟩)) fr rfl rfl (by first | decide | simp) (x_move rfl (fr.ev rfl)) ?_
    clear fr a; intro a fr
    refine fx_call fr rfl rfl (by first | decide | simp) (x_call (vs := [.pointer (some ⟨b9, 0, none⟩)]) rfl rfl ⟨(fr.ev rfl), trivial⟩ Try.func26 nm26 rfl) (copy_c H15 (by omega) (by omega)) ?_
    clear fr a
    rintro v w55 ⟨b49, A50, cap51, rfl, H52, hb53, hA54, hN56⟩ a fr
    have ap_P_b49 : Apart P b49 := hV.apart hb53
    have ne_b1_b49 : NE b1 b49 := NE.mk (Nat.lt_of_lt_of_le B4.lt hb53)
    have ne_b9_b49 : NE b9 b49 := NE.mk (Nat.lt_of_lt_of_le H15.ltb hb53)
    have ap_A10_b49 : Apart A10 b49 := H15.apart hb53
    have ap_V13_b49 : Apart V13 b49 := hW16.apart hb53
    have ne_b25_b49 : NE b25 b49 := NE.mk (Nat.lt_of_lt_of_le B28.lt hb53)
    have ne_b32_b49 : NE b32 b49 := NE.mk (Nat.lt_of_lt_of_le H35.ltb hb53)
    have ap_A33_b49 : Apart A33 b49 := H35.apart hb53
    have ne_b42_b49 : NE b42 b49 := NE.mk (Nat.lt_of_lt_of_le B45.lt hb53)
    have g_b49 := Nat.le_trans hF.size hb53
    have ap2_P_A50 : Apart2 P A50 := (new_apart2 hA54 fun _ hg => hV.lt hg).symm
    have ap_A50_b1 : Apart A50 b1 := new_apart hA54 B4.lt
    have ap_A50_b9 : Apart A50 b9 := new_apart hA54 H15.ltb
    have ap2_A10_A50 : Apart2 A10 A50 := (new_apart2 hA54 fun _ hg => H15.lt hg).symm
    have ap2_V13_A50 : Apart2 V13 A50 := (new_apart2 hA54 fun _ hg => hW16.lt hg).symm
    have ap_A50_b25 : Apart A50 b25 := new_apart hA54 B28.lt
    have ap_A50_b32 : Apart A50 b32 := new_apart hA54 H35.ltb
    have ap2_A33_A50 : Apart2 A33 A50 := (new_apart2 hA54 fun _ hg => H35.lt hg).symm
    have ap_A50_b42 : Apart A50 b42 := new_apart hA54 B45.lt
    have gA_A50 := gA_new hF hA54
    replace hV := hV.new hN56
    replace B4 := B4.new hN56
    replace H15 := H15.new hN56
    replace hW16 := hW16.new hN56
    replace B28 := B28.new hN56
    replace H35 := H35.new hN56
    replace B45 := B45.new hN56
    replace hF := hF.trNew hN56
    refine fx_val (v := .pointer (some ⟨b49, 0, none⟩)) fr rfl rfl (by first | decide | simp) (x_assign rfl (fr.ev rfl)) ?_
    clear fr a; intro a fr
    refine wpList_nil ?_
    refine fx_next ?_
    refine wp_seq ?_
    refine wp_seq ?_
    have hs1 := sendL_le most l12 x.msg
    have hd1 := delL_le x.pick l12
    refine wp_region_lit ?_  -- region 9
    refine fx_val (v := .pointer (some ⟨b1, 0, none⟩)) fr rfl rfl (by first | decide | simp) (x_fieldAddr fo40_0 rfl (fr.ev rfl) rfl) ?_
    clear fr a; intro a fr
    refine fx_val (v := .int .i64 x.what) fr rfl rfl (by first | decide | simp) (x_load1 pl3 rfl (fr.ev rfl) (B4.cell 0 rfl)) ?_
    clear fr a; intro a fr
    refine fx_val (v := .bool (decide (x.what ≠ 0))) fr rfl rfl (by first | decide | simp) (x_neq rfl (fr.ev rfl) rfl rfl) ?_
    clear fr a; intro a fr
    refine wpList_nil ?_
    refine fx_next ?_
    refine fx_cond fr rfl (fun hc57 => ?_) (fun hc57 => ?_)
    · skip
      have hc57 := of_decide_eq_true hc57
      refine wp_seq ?_
      refine wp_region_lit ?_  -- region 10
      refine fx_val (v := .agg (#[.int .i64 most, .slice V13 l12.length vc14])) fr rfl rfl (by first | decide | simp) (x_loadS ag49 rfl (fr.ev rfl) rfl B28.range) ?_
      clear fr a; intro a fr
      refine fx_val (v := .pointer (some ⟨b1, 21, none⟩)) fr rfl rfl (by first | decide | simp) (x_fieldAddr fo40_2 rfl (fr.ev rfl) rfl) ?_
      clear fr a; intro a fr
      refine fx_val (v := .int .i64 x.pick) fr rfl rfl (by first | decide | simp) (x_load1 pl3 rfl (fr.ev rfl) (B4.cell 21 (act_pickA _))) ?_
      clear fr a; intro a fr
      refine fx_call fr rfl rfl (by first | decide | simp) (x_call (vs := [.agg (#[.int .i64 most, .slice V13 l12.length vc14]), .int .i64 x.pick]) rfl rfl ⟨(fr.ev rfl), (fr.ev rfl), trivial⟩ Try.func24 nm24 rfl) (rdeliver_c x.pick hW16 (by omega)) ?_
      clear fr a
      rintro v w62 ⟨A58, cap59, rfl, V60, mv61, hN63⟩ a fr
      have ap_A58_b1 : Apart A58 b1 := moved_apart mv61 ap_V13_b1 B4.lt
      have ap_A58_b9 : Apart A58 b9 := moved_apart mv61 ap_V13_b9 H15.ltb
      have ap2_A58_A10 : Apart2 A58 A10 := moved_apart2 mv61 ap2_A10_V13.symm fun _ hg => H15.lt hg
      have ap_A58_b25 : Apart A58 b25 := moved_apart mv61 ap_V13_b25 B28.lt
      have ap_A58_b32 : Apart A58 b32 := moved_apart mv61 ap_V13_b32 H35.ltb
      have ap2_A58_A33 : Apart2 A58 A33 := moved_apart2 mv61 ap2_V13_A33 fun _ hg => H35.lt hg
      have ap_A58_b42 : Apart A58 b42 := moved_apart mv61 ap_V13_b42 B45.lt
      have ap_A58_b49 : Apart A58 b49 := moved_apart mv61 ap_V13_b49 H52.ltb
      have ap2_A58_A50 : Apart2 A58 A50 := moved_apart2 mv61 ap2_V13_A50 fun _ hg => H52.lt hg
      have gA_A58 := gA_moved hF mv61 gA_V13
      replace hV := hV.new hN63
      replace B4 := B4.new hN63
      replace H15 := H15.new hN63
      replace hW16 := hW16.new hN63
      replace B28 := B28.new hN63
      replace H35 := H35.new hN63
      replace B45 := B45.new hN63
      replace H52 := H52.new hN63
      replace hF := hF.trNew hN63
      refine fx_val (v := .tuple #[.agg (#[.int .i64 most, .slice A58 ((delL x.pick l12).length) cap59]), .agg (msgE.arr (delM x.pick l12)), .bool (decide (l12 ≠ []))]) fr rfl rfl (by first | decide | simp) (x_move rfl (fr.ev rfl)) ?_
      clear fr a; intro a fr
      refine fx_val (v := .agg (#[.int .i64 most, .slice A58 ((delL x.pick l12).length) cap59])) fr rfl rfl (by first | decide | simp) (x_extract rfl (fr.ev rfl) rfl) ?_
      clear fr a; intro a fr
      refine fx_val (v := .agg (msgE.arr (delM x.pick l12))) fr rfl rfl (by first | decide | simp) (x_extract rfl (fr.ev rfl) rfl) ?_
      clear fr a; intro a fr
      refine fx_val (v := .bool (decide (l12 ≠ []))) fr rfl rfl (by first | decide | simp) (x_extract rfl (fr.ev rfl) rfl) ?_
      clear fr a; intro a fr
      refine fx_storeS sz49 rfl rfl rfl (fr.ev rfl) (fr.ev rfl) (by simp [Value.oneCell']) B45 rfl rfl fun w64 hO65 hBq => ?_
      replace hV := hV.only hO65 (Apart.ne1 ap_P_b42)
      replace B4 := B4.only hO65 (by first | exact ne_b1_b42 | exact ne_b42_b1.symm | (show ¬ b1 = b42; omega))
      replace H15 := H15.only hO65 (by first | exact ne_b9_b42 | exact ne_b42_b9.symm | (show ¬ b9 = b42; omega)) (Apart.ne1 ap_A10_b42)
      replace hW16 := hW16.only hO65 (Apart.ne1 ap_V13_b42)
      replace B28 := B28.only hO65 (by first | exact ne_b25_b42 | exact ne_b42_b25.symm | (show ¬ b25 = b42; omega))
      replace H35 := H35.only hO65 (by first | exact ne_b32_b42 | exact ne_b42_b32.symm | (show ¬ b32 = b42; omega)) (Apart.ne1 ap_A33_b42)
      replace H52 := H52.only hO65 (by first | exact ne_b49_b42 | exact ne_b42_b49.symm | (show ¬ b49 = b42; omega)) (Apart.ne1 ap_A50_b42)
      replace V60 := V60.only hO65 (Apart.ne1 ap_A58_b42)
      replace hF := hF.loc hO65 (.inr g_b42)
      replace B45 := hBq
      clear hBq
      refine wpList_nil ?_
      refine fx_next ?_
      refine wp_region_lit ?_  -- region 11
      refine fx_val (v := .pointer (some ⟨b9, 0, none⟩)) fr rfl rfl (by first | decide | simp) (x_move rfl (fr.ev rfl)) ?_
      clear fr a; intro a fr
      refine fx_val (v := .pointer (some ⟨b1, 21, none⟩)) fr rfl rfl (by first | decide | simp) (x_fieldAddr fo40_2 rfl (fr.ev rfl) rfl) ?_
      clear fr a; intro a fr
      refine fx_val (v := .int .i64 x.pick) fr rfl rfl (by first | decide | simp) (x_load1 pl3 rfl (fr.ev rfl) (B4.cell 21 (act_pickA _))) ?_
      clear fr a; intro a fr
      refine fx_call fr rfl rfl (by first | decide | simp) (x_call (vs := [.pointer (some ⟨b9, 0, none⟩), .int .i64 x.pick]) rfl rfl ⟨(fr.ev rfl), (fr.ev rfl), trivial⟩ Try.func16 nm16 rfl) (deliver_c x.pick H15 (by omega) (by omega)) ?_
      clear fr a
      rintro v w70 ⟨rfl, A66, cap67, H68, hN71, mv69⟩ a fr
      have ap2_A66_P : Apart2 A66 P := moved_apart2 mv69 ap2_P_A10.symm fun _ hg => hV.lt hg
      have ap_A66_b1 : Apart A66 b1 := moved_apart mv69 ap_A10_b1 B4.lt
      have ap2_A66_V13 : Apart2 A66 V13 := moved_apart2 mv69 ap2_A10_V13 fun _ hg => hW16.lt hg
      have ap_A66_b25 : Apart A66 b25 := moved_apart mv69 ap_A10_b25 B28.lt
      have ap_A66_b32 : Apart A66 b32 := moved_apart mv69 ap_A10_b32 H35.ltb
      have ap2_A66_A33 : Apart2 A66 A33 := moved_apart2 mv69 ap2_A10_A33 fun _ hg => H35.lt hg
      have ap_A66_b49 : Apart A66 b49 := moved_apart mv69 ap_A10_b49 H52.ltb
      have ap2_A66_A50 : Apart2 A66 A50 := moved_apart2 mv69 ap2_A10_A50 fun _ hg => H52.lt hg
      have ap2_A66_A58 : Apart2 A66 A58 := moved_apart2 mv69 ap2_A58_A10.symm fun _ hg => V60.lt hg
      have ap_A66_b42 : Apart A66 b42 := moved_apart mv69 ap_A10_b42 B45.lt
      have gA_A66 := gA_moved hF mv69 gA_A10
      replace hV := hV.only hN71 (fun g hg h => h.elim ((Apart.ne1 ap_P_b9) g hg) ((fun g h1 h2 => ap2_P_A10 g h1 h2) g hg))
      replace B4 := B4.only hN71 (fun h => h.elim (by first | exact ne_b1_b9 | exact ne_b9_b1.symm | (show ¬ b1 = b9; omega)) ap_A10_b1)
      replace hW16 := hW16.only hN71 (fun g hg h => h.elim ((Apart.ne1 ap_V13_b9) g hg) ((fun g h1 h2 => ap2_A10_V13.symm g h1 h2) g hg))
      replace B28 := B28.only hN71 (fun h => h.elim (by first | exact ne_b25_b9 | exact ne_b9_b25.symm | (show ¬ b25 = b9; omega)) ap_A10_b25)
      replace H35 := H35.only hN71 (fun h => h.elim (by first | exact ne_b32_b9 | exact ne_b9_b32.symm | (show ¬ b32 = b9; omega)) ap_A10_b32) (fun g hg h => h.elim ((Apart.ne1 ap_A33_b9) g hg) ((fun g h1 h2 => ap2_A10_A33.symm g h1 h2) g hg))
      replace H52 := H52.only hN71 (fun h => h.elim (by first | exact ne_b49_b9 | exact ne_b9_b49.symm | (show ¬ b49 = b9; omega)) ap_A10_b49) (fun g hg h => h.elim ((Apart.ne1 ap_A50_b9) g hg) ((fun g h1 h2 => ap2_A10_A50.symm g h1 h2) g hg))
      replace V60 := V60.only hN71 (fun g hg h => h.elim ((Apart.ne1 ap_A58_b9) g hg) ((fun g h1 h2 => ap2_A58_A10 g h1 h2) g hg))
      replace B45 := B45.only hN71 (fun h => h.elim (by first | exact ne_b42_b9 | exact ne_b9_b42.symm | (show ¬ b42 = b9; omega)) ap_A10_b42)
      replace hF := hF.loc2 hN71 (.inr g_b9) gA_A10
      clear H15
      refine wpList_nil ?_
      refine fx_next ?_
      refine wp_seq ?_
      refine wp_region_lit ?_  -- region 14
      refine fx_val (v := .pointer (some ⟨b42, 1, none⟩)) fr rfl rfl (by first | decide | simp) (x_fieldAddr fo49_1 rfl (fr.ev rfl) rfl) ?_
      clear fr a; intro a fr
      refine fx_val (v := .slice A58 ((delL x.pick l12).length) cap59) fr rfl rfl (by first | decide | simp) (x_load1 pl38 rfl (fr.ev rfl) (B45.cell 1 rfl)) ?_
      clear fr a; intro a fr
      refine fx_val (v := .pointer (some ⟨b25, 1, none⟩)) fr rfl rfl (by first | decide | simp) (x_fieldAddr fo49_1 rfl (fr.ev rfl) rfl) ?_
      clear fr a; intro a fr
      refine fx_val (v := .slice V13 l12.length vc14) fr rfl rfl (by first | decide | simp) (x_load1 pl38 rfl (fr.ev rfl) (B28.cell 1 rfl)) ?_
      clear fr a; intro a fr
      refine fx_call fr rfl rfl (by first | decide | simp) (x_call (vs := [.slice A58 ((delL x.pick l12).length) cap59, .slice V13 l12.length vc14]) rfl rfl ⟨(fr.ev rfl), (fr.ev rfl), trivial⟩ Try.func18 nm18 rfl) (same_c (V60) (hW16)) ?_
      clear fr a
      rintro v w72 ⟨rfl, hN73⟩ a fr
      replace hV := hV.new hN73
      replace B4 := B4.new hN73
      replace hW16 := hW16.new hN73
      replace B28 := B28.new hN73
      replace H35 := H35.new hN73
      replace H52 := H52.new hN73
      replace V60 := V60.new hN73
      replace B45 := B45.new hN73
      replace H68 := H68.new hN73
      replace hF := hF.trNew hN73
      refine fx_val (v := .bool (decide (delL x.pick l12 = l12))) fr rfl rfl (by first | decide | simp) (x_assign rfl (fr.ev rfl)) ?_
      clear fr a; intro a fr
      refine wpList_nil ?_
      refine fx_next ?_
      refine wp_seq ?_
      refine wp_region_lit ?_  -- region 15
      refine fx_val (v := .pointer (some ⟨b32, 0, none⟩)) fr rfl rfl (by first | decide | simp) (x_move rfl (fr.ev rfl)) ?_
      clear fr a; intro a fr
      refine fx_call fr rfl rfl (by first | decide | simp) (x_call (vs := [.pointer (some ⟨b32, 0, none⟩)]) rfl rfl ⟨(fr.ev rfl), trivial⟩ Try.func17 nm17 rfl) (ready_c H35 (by omega) (by omega)) ?_
      clear fr a
      rintro v w78 ⟨A74, cap75, rfl, O76, hA77, hN79⟩ a fr
      have ap2_P_A74 : Apart2 P A74 := (new_apart2 hA77 fun _ hg => hV.lt hg).symm
      have ap_A74_b1 : Apart A74 b1 := new_apart hA77 B4.lt
      have ap2_V13_A74 : Apart2 V13 A74 := (new_apart2 hA77 fun _ hg => hW16.lt hg).symm
      have ap_A74_b25 : Apart A74 b25 := new_apart hA77 B28.lt
      have ap_A74_b32 : Apart A74 b32 := new_apart hA77 H35.ltb
      have ap2_A33_A74 : Apart2 A33 A74 := (new_apart2 hA77 fun _ hg => H35.lt hg).symm
      have ap_A74_b49 : Apart A74 b49 := new_apart hA77 H52.ltb
      have ap2_A50_A74 : Apart2 A50 A74 := (new_apart2 hA77 fun _ hg => H52.lt hg).symm
      have ap2_A58_A74 : Apart2 A58 A74 := (new_apart2 hA77 fun _ hg => V60.lt hg).symm
      have ap_A74_b42 : Apart A74 b42 := new_apart hA77 B45.lt
      have ap_A74_b9 : Apart A74 b9 := new_apart hA77 H68.ltb
      have ap2_A66_A74 : Apart2 A66 A74 := (new_apart2 hA77 fun _ hg => H68.lt hg).symm
      have gA_A74 := gA_new hF hA77
      replace hV := hV.new hN79
      replace B4 := B4.new hN79
      replace hW16 := hW16.new hN79
      replace B28 := B28.new hN79
      replace H35 := H35.new hN79
      replace H52 := H52.new hN79
      replace V60 := V60.new hN79
      replace B45 := B45.new hN79
      replace H68 := H68.new hN79
      replace hF := hF.trNew hN79
      refine fx_val (v := .slice A74 l12.length cap75) fr rfl rfl (by first | decide | simp) (x_assign rfl (fr.ev rfl)) ?_
      clear fr a; intro a fr
      refine wpList_nil ?_
      refine fx_next ?_
      refine wp_seq ?_
      refine wp_seq ?_
      refine wp_region_lit ?_  -- region 16
      refine fx_val (v := .int .i64 0) fr rfl rfl (by first | decide | simp) (x_assign rfl rfl) ?_
      clear fr a; intro a fr
      refine wpList_nil ?_
      refine fx_next ?_
      refine wp_block ?_
      refine fx_loop (fun nM a wL => ∃ i : Nat, ∃ ll : List Msg, nM = l12.length - i ∧ Fr (188, []) [(0, .int .i64 most), (1, .slice P la.length cp), (2, .agg (actE.arr x)), (5, .pointer (some ⟨b1, 0, none⟩)), (6, .bool false), (24, .int .i64 most), (25, .bool (decide (most < 1))), (26, .bool (decide (most < 1))), (27, onlyIf (!(decide (most < 1))) (.int .i64 most)), (28, onlyIf (!(decide (most < 1))) (.bool (decide (1024 < most)))), (29, .bool ((decide (most < 1)) || (decide (1024 < most)))), (30, .bool ((decide (most < 1)) || (decide (1024 < most)))), (31, onlyIf (!((decide (most < 1)) || (decide (1024 < most)))) (.slice P la.length cp)), (32, onlyIf (!((decide (most < 1)) || (decide (1024 < most)))) (.int .i64 ((la.length : Nat) : Int))), (33, onlyIf (!((decide (most < 1)) || (decide (1024 < most)))) (.bool (decide (100 < ((la.length : Nat) : Int))))), (34, .bool (((decide (most < 1)) || (decide (1024 < most))) || (decide (100 < ((la.length : Nat) : Int))))), (37, .int .i64 most), (38, .slice P la.length cp), (39, .tuple #[.pointer (some ⟨b9, 0, none⟩), .agg (#[.int .i64 most, .slice V13 l12.length vc14]), .bool true]), (36, .tuple #[.pointer (some ⟨b9, 0, none⟩), .agg (#[.int .i64 most, .slice V13 l12.length vc14]), .bool true]), (40, .pointer (some ⟨b9, 0, none⟩)), (41, .agg (#[.int .i64 most, .slice V13 l12.length vc14])), (42, .bool true), (8, .pointer (some ⟨b25, 0, none⟩)), (7, .pointer (some ⟨b9, 0, none⟩)), (9, .bool true), (43, .pointer (some ⟨b9, 0, none⟩)), (44, .pointer (some ⟨b32, 0, none⟩)), (10, .pointer (some ⟨b32, 0, none⟩)), (45, .bool true), (46, .bool false), (47, .bool false), (48, .pointer (some ⟨b9, 0, none⟩)), (49, .pointer (some ⟨b32, 0, none⟩)), (50, .bool true), (51, .bool false), (52, .bool false), (53, .agg (#[.int .i64 most, .slice V13 l12.length vc14])), (11, .pointer (some ⟨b42, 0, none⟩)), (54, .pointer (some ⟨b9, 0, none⟩)), (55, .pointer (some ⟨b49, 0, none⟩)), (12, .pointer (some ⟨b49, 0, none⟩)), (56, .pointer (some ⟨b1, 0, none⟩)), (57, .int .i64 x.what), (58, .bool (decide (x.what ≠ 0))), (60, .agg (#[.int .i64 most, .slice V13 l12.length vc14])), (61, .pointer (some ⟨b1, 21, none⟩)), (62, .int .i64 x.pick), (63, .tuple #[.agg (#[.int .i64 most, .slice A58 ((delL x.pick l12).length) cap59]), .agg (msgE.arr (delM x.pick l12)), .bool (decide (l12 ≠ []))]), (59, .tuple #[.agg (#[.int .i64 most, .slice A58 ((delL x.pick l12).length) cap59]), .agg (msgE.arr (delM x.pick l12)), .bool (decide (l12 ≠ []))]), (64, .agg (#[.int .i64 most, .slice A58 ((delL x.pick l12).length) cap59])), (65, .agg (msgE.arr (delM x.pick l12))), (66, .bool (decide (l12 ≠ []))), (67, .pointer (some ⟨b9, 0, none⟩)), (68, .pointer (some ⟨b1, 21, none⟩)), (69, .int .i64 x.pick), (70, .tuple #[.agg (msgE.arr (delM x.pick l12)), .bool (decide (l12 ≠ []))]), (82, .pointer (some ⟨b42, 1, none⟩)), (83, .slice A58 ((delL x.pick l12).length) cap59), (84, .pointer (some ⟨b25, 1, none⟩)), (85, .slice V13 l12.length vc14), (86, .bool (decide (delL x.pick l12 = l12))), (13, .bool (decide (delL x.pick l12 = l12))), (87, .pointer (some ⟨b32, 0, none⟩)), (88, .slice A74 l12.length cap75), (14, .slice A74 l12.length cap75), (15, .int .i64 ((i : Nat) : Int))] a ∧ Only (fun _ => False) w wL ∧ View actE wL P cp la ∧ Blk wL b1 40 (actE.arr x) ∧ View msgE wL V13 vc14 l12 ∧ Blk wL b25 49 (#[.int .i64 most, .slice V13 l12.length vc14]) ∧ NetAt wL b32 A33 cap34 most l12 ∧ NetAt wL b49 A50 cap51 most l12 ∧ View msgE wL A58 cap59 (delL x.pick l12) ∧ Blk wL b42 49 (#[.int .i64 most, .slice A58 ((delL x.pick l12).length) cap59]) ∧ NetAt wL b9 A66 cap67 most (delL x.pick l12) ∧ Own msgE wL A74 cap75 ll ∧ i ≤ l12.length ∧ ll.length = l12.length) (n0 := _) ⟨0, l12, rfl, fr.sub ⟨rfl, rfl, rfl, rfl, rfl, rfl, rfl, rfl, rfl, rfl, rfl, rfl, rfl, rfl, rfl, rfl, rfl, rfl, rfl, rfl, rfl, rfl, rfl, rfl, rfl, rfl, rfl, rfl, rfl, rfl, rfl, rfl, rfl, rfl, rfl, rfl, rfl, rfl, rfl, rfl, rfl, rfl, rfl, rfl, rfl, rfl, rfl, rfl, rfl, rfl, rfl, rfl, rfl, rfl, rfl, rfl, rfl, rfl, rfl, rfl, rfl, rfl, rfl, rfl, rfl, rfl, rfl, trivial⟩, hF, hV, B4, hW16, B28, H35, H52, V60, B45, H68, O76, by omega, rfl⟩ ?_
      rintro n81 a w80 ⟨i, ll, rfl, fr, hF, hV, B4, hW16, B28, H35, H52, V60, B45, H68, OL, hi, hll⟩
      refine wp_seq ?_
      refine wp_seq ?_
      refine wp_region_lit ?_  -- region 17
      refine fx_val (v := .int .i64 ((i : Nat) : Int)) fr rfl rfl (by first | decide | simp) (x_move rfl (fr.ev rfl)) ?_
      clear fr a; intro a fr
      refine fx_val (v := .slice A74 l12.length cap75) fr rfl rfl (by first | decide | simp) (x_move rfl (fr.ev rfl)) ?_
      clear fr a; intro a fr
      refine fx_val (v := .int .i64 ((l12.length : Nat) : Int)) fr rfl rfl (by first | decide | simp) (x_len Try.underlying38 rfl (fr.ev rfl)) ?_
      clear fr a; intro a fr
      refine fx_val (v := .bool (decide (((i : Nat) : Int) < ((l12.length : Nat) : Int)))) fr rfl rfl (by first | decide | simp) (x_lss rfl (fr.ev rfl) (fr.ev rfl) rfl) ?_
      clear fr a; intro a fr
      refine wpList_nil ?_
      refine fx_next ?_
      refine fx_cond fr rfl (fun hc82 => ?_) (fun hc82 => ?_)
      · skip
        have hc82 := of_decide_eq_true hc82
        refine wp_skip ?_
        refine fx_next ?_
        refine wp_seq ?_
        refine wp_block ?_
        refine wp_region_lit ?_  -- region 19
        refine fx_val (v := .slice A74 l12.length cap75) fr rfl rfl (by first | decide | simp) (x_move rfl (fr.ev rfl)) ?_
        clear fr a; intro a fr
        refine fx_val (v := .int .i64 ((i : Nat) : Int)) fr rfl rfl (by first | decide | simp) (x_move rfl (fr.ev rfl)) ?_
        clear fr a; intro a fr
        refine fx_val (v := .slice A74 l12.length cap75) fr rfl rfl (by first | decide | simp) (x_move rfl (fr.ev rfl)) ?_
        clear fr a; intro a fr
        refine fx_val (v := .int .i64 ((i : Nat) : Int)) fr rfl rfl (by first | decide | simp) (x_move rfl (fr.ev rfl)) ?_
        clear fr a; intro a fr
        obtain ⟨g83, o84, hA85⟩ := (OL.view).some_ (by omega)
        refine fx_val (v := .pointer (some ⟨g83, o84 + i * 20, none⟩)) fr rfl rfl (by first | decide | simp) (x_indexV Try.underlying38 sz26 rfl (fr.ev rfl) hA85 (fr.ev rfl) (by omega) rfl) ?_
        clear fr a; intro a fr
        refine fx_val (v := .pointer (some ⟨g83, o84 + i * 20 + 3, none⟩)) fr rfl rfl (by first | decide | simp) (x_fieldAddr fo26_3 rfl (fr.ev rfl) rfl) ?_
        clear fr a; intro a fr
        refine fx_val (v := .int .u32 ((ll.getD i msg0).line)) fr rfl rfl (by first | decide | simp) (x_load1 pl23 rfl (fr.ev rfl) (range_cell ((OL.view).elem hA85 i msg0 (by omega)) 3 rfl rfl)) ?_
        clear fr a; intro a fr
        refine fx_val (v := .int .u32 (IntKind.u32.wrap ((ll.getD i msg0).line + 1))) fr rfl rfl (by first | decide | simp) (x_add rfl (fr.ev rfl) rfl rfl) ?_
        clear fr a; intro a fr
        refine fx_val (v := .pointer (some ⟨g83, o84 + i * 20, none⟩)) fr rfl rfl (by first | decide | simp) (x_indexV Try.underlying38 sz26 rfl (fr.ev rfl) hA85 (fr.ev rfl) (by omega) rfl) ?_
        clear fr a; intro a fr
        refine fx_val (v := .pointer (some ⟨g83, o84 + i * 20 + 3, none⟩)) fr rfl rfl (by first | decide | simp) (x_fieldAddr fo26_3 rfl (fr.ev rfl) rfl) ?_
        clear fr a; intro a fr
        refine fx_storeEl (E := msgE) (d := msg0) (q := 3) (x' := { (ll.getD i msg0) with line := IntKind.u32.wrap ((ll.getD i msg0).line + 1) }) sz23 rfl rfl rfl hA85 OL (by omega) (by decide) (fr.ev rfl) rfl (fr.ev rfl) rfl rfl fun w86 hO87 hBq => ?_
        replace hV := hV.only hO87 (fun g h1 h2 => ap2_P_A74 g h1 h2)
        replace B4 := B4.only hO87 ap_A74_b1
        replace hW16 := hW16.only hO87 (fun g h1 h2 => ap2_V13_A74 g h1 h2)
        replace B28 := B28.only hO87 ap_A74_b25
        replace H35 := H35.only hO87 ap_A74_b32 (fun g h1 h2 => ap2_A33_A74 g h1 h2)
        replace H52 := H52.only hO87 ap_A74_b49 (fun g h1 h2 => ap2_A50_A74 g h1 h2)
        replace V60 := V60.only hO87 (fun g h1 h2 => ap2_A58_A74 g h1 h2)
        replace B45 := B45.only hO87 ap_A74_b42
        replace H68 := H68.only hO87 ap_A74_b9 (fun g h1 h2 => ap2_A66_A74 g h1 h2)
        replace hF := hF.locA hO87 gA_A74
        replace OL := hBq
        clear hBq
        refine wpList_nil ?_
        refine fx_blk ?_
        refine fx_next ?_
        refine wp_region_lit ?_  -- region 18
        refine fx_val (v := .int .i64 ((i : Nat) : Int)) fr rfl rfl (by first | decide | simp) (x_move rfl (fr.ev rfl)) ?_
        clear fr a; intro a fr
        refine fx_val (v := .int .i64 ((i + 1 : Nat) : Int)) fr rfl rfl (by first | decide | simp) (x_add rfl (fr.ev rfl) rfl (i64w (r := ((i + 1 : Nat) : Int)) (by omega) (by omega))) ?_
        clear fr a; intro a fr
        refine fx_val (v := .int .i64 ((i + 1 : Nat) : Int)) fr rfl rfl (by first | decide | simp) (x_assign rfl (fr.ev rfl)) ?_
        clear fr a; intro a fr
        refine wpList_nil ?_
        refine fx_next ?_
        exact ⟨_, by omega, (i + 1), (ll.set i { (ll.getD i msg0) with line := IntKind.u32.wrap ((ll.getD i msg0).line + 1) }), rfl, fr.sub ⟨rfl, rfl, rfl, rfl, rfl, rfl, rfl, rfl, rfl, rfl, rfl, rfl, rfl, rfl, rfl, rfl, rfl, rfl, rfl, rfl, rfl, rfl, rfl, rfl, rfl, rfl, rfl, rfl, rfl, rfl, rfl, rfl, rfl, rfl, rfl, rfl, rfl, rfl, rfl, rfl, rfl, rfl, rfl, rfl, rfl, rfl, rfl, rfl, rfl, rfl, rfl, rfl, rfl, rfl, rfl, rfl, rfl, rfl, rfl, rfl, rfl, rfl, rfl, rfl, rfl, rfl, rfl, trivial⟩, hF, hV, B4, hW16, B28, H35, H52, V60, B45, H68, OL, by omega, (by rw [List.length_set]; exact hll)⟩
      · skip
        have hc82 := of_decide_eq_false hc82
        refine wp_exit ?_
        refine fx_xt ?_
        refine fx_xt ?_
        refine fx_xx ?_
        refine fx_next ?_
        refine wp_seq ?_
        have hb : 0 ≤ Int.tmod most 1024 ∧ Int.tmod most 1024 < 1024 := ⟨Int.tmod_nonneg _ (by omega), Int.tmod_lt_of_pos _ (by omega)⟩
        refine wp_region_lit ?_  -- region 20
        refine fx_val (v := .int .i64 most) fr rfl rfl (by first | decide | simp) (x_move rfl (fr.ev rfl)) ?_
        clear fr a; intro a fr
        refine fx_val (v := .int .i64 (Int.tmod most 1024)) fr rfl rfl (by first | decide | simp) (x_rem rfl (fr.ev rfl) rfl (by omega) rfl) ?_
        clear fr a; intro a fr
        refine fx_val (v := .int .i64 (Int.tmod most 1024 + 1)) fr rfl rfl (by first | decide | simp) (x_add rfl (fr.ev rfl) rfl (i64w (r := Int.tmod most 1024 + 1) (by omega) (by omega))) ?_
        clear fr a; intro a fr
        refine fx_call fr rfl rfl (by first | decide | simp) (x_call (vs := [.int .i64 (Int.tmod most 1024 + 1)]) rfl rfl ⟨(fr.ev rfl), trivial⟩ Try.func14 nm14 rfl) (new_yes (Int.tmod most 1024 + 1) _ (by omega) (by omega)) ?_
        clear fr a
        rintro v w94 ⟨b88, A89, cap90, rfl, H91, hb92, hA93, hN95⟩ a fr
        have ap_P_b88 : Apart P b88 := hV.apart hb92
        have ne_b1_b88 : NE b1 b88 := NE.mk (Nat.lt_of_lt_of_le B4.lt hb92)
        have ap_V13_b88 : Apart V13 b88 := hW16.apart hb92
        have ne_b25_b88 : NE b25 b88 := NE.mk (Nat.lt_of_lt_of_le B28.lt hb92)
        have ne_b32_b88 : NE b32 b88 := NE.mk (Nat.lt_of_lt_of_le H35.ltb hb92)
        have ap_A33_b88 : Apart A33 b88 := H35.apart hb92
        have ne_b49_b88 : NE b49 b88 := NE.mk (Nat.lt_of_lt_of_le H52.ltb hb92)
        have ap_A50_b88 : Apart A50 b88 := H52.apart hb92
        have ap_A58_b88 : Apart A58 b88 := V60.apart hb92
        have ne_b42_b88 : NE b42 b88 := NE.mk (Nat.lt_of_lt_of_le B45.lt hb92)
        have ne_b9_b88 : NE b9 b88 := NE.mk (Nat.lt_of_lt_of_le H68.ltb hb92)
        have ap_A66_b88 : Apart A66 b88 := H68.apart hb92
        have ap_A74_b88 : Apart A74 b88 := OL.apart hb92
        have g_b88 := Nat.le_trans hF.size hb92
        have ap2_P_A89 : Apart2 P A89 := (new_apart2 hA93 fun _ hg => hV.lt hg).symm
        have ap_A89_b1 : Apart A89 b1 := new_apart hA93 B4.lt
        have ap2_V13_A89 : Apart2 V13 A89 := (new_apart2 hA93 fun _ hg => hW16.lt hg).symm
        have ap_A89_b25 : Apart A89 b25 := new_apart hA93 B28.lt
        have ap_A89_b32 : Apart A89 b32 := new_apart hA93 H35.ltb
        have ap2_A33_A89 : Apart2 A33 A89 := (new_apart2 hA93 fun _ hg => H35.lt hg).symm
        have ap_A89_b49 : Apart A89 b49 := new_apart hA93 H52.ltb
        have ap2_A50_A89 : Apart2 A50 A89 := (new_apart2 hA93 fun _ hg => H52.lt hg).symm
        have ap2_A58_A89 : Apart2 A58 A89 := (new_apart2 hA93 fun _ hg => V60.lt hg).symm
        have ap_A89_b42 : Apart A89 b42 := new_apart hA93 B45.lt
        have ap_A89_b9 : Apart A89 b9 := new_apart hA93 H68.ltb
        have ap2_A66_A89 : Apart2 A66 A89 := (new_apart2 hA93 fun _ hg => H68.lt hg).symm
        have ap2_A74_A89 : Apart2 A74 A89 := (new_apart2 hA93 fun _ hg => OL.lt hg).symm
        have gA_A89 := gA_new hF hA93
        replace hV := hV.new hN95
        replace B4 := B4.new hN95
        replace hW16 := hW16.new hN95
        replace B28 := B28.new hN95
        replace H35 := H35.new hN95
        replace H52 := H52.new hN95
        replace V60 := V60.new hN95
        replace B45 := B45.new hN95
        replace H68 := H68.new hN95
        replace OL := OL.new hN95
        replace hF := hF.trNew hN95
        refine fx_val (v := .tuple #[.pointer (some ⟨b88, 0, none⟩), .int .i64 0]) fr rfl rfl (by first | decide | simp) (x_move rfl (fr.ev rfl)) ?_
        clear fr a; intro a fr
        refine fx_val (v := .pointer (some ⟨b88, 0, none⟩)) fr rfl rfl (by first | decide | simp) (x_extract rfl (fr.ev rfl) rfl) ?_
        clear fr a; intro a fr
        refine fx_val (v := .int .i64 0) fr rfl rfl (by first | decide | simp) (x_extract rfl (fr.ev rfl) rfl) ?_
        clear fr a; intro a fr
        refine fx_val (v := .pointer (some ⟨b88, 0, none⟩)) fr rfl rfl (by first | decide | simp) (x_assign rfl (fr.ev rfl)) ?_
        clear fr a; intro a fr
        refine fx_val (v := .int .i64 0) fr rfl rfl (by first | decide | simp) (x_assign rfl (fr.ev rfl)) ?_
        clear fr a; intro a fr
        refine wpList_nil ?_
        refine fx_next ?_
        refine wp_seq ?_
        refine wp_region_lit ?_  -- region 21
        refine fx_val (v := .int .i64 most) fr rfl rfl (by first | decide | simp) (x_move rfl (fr.ev rfl)) ?_
        clear fr a; intro a fr
        refine fx_call fr rfl rfl (by first | decide | simp) (x_call (vs := [.int .i64 most]) rfl rfl ⟨(fr.ev rfl), trivial⟩ Try.func14 nm14 rfl) (new_yes most _ (by omega) (by omega)) ?_
        clear fr a
        rintro v w102 ⟨b96, A97, cap98, rfl, H99, hb100, hA101, hN103⟩ a fr
        have ap_P_b96 : Apart P b96 := hV.apart hb100
        have ne_b1_b96 : NE b1 b96 := NE.mk (Nat.lt_of_lt_of_le B4.lt hb100)
        have ap_V13_b96 : Apart V13 b96 := hW16.apart hb100
        have ne_b25_b96 : NE b25 b96 := NE.mk (Nat.lt_of_lt_of_le B28.lt hb100)
        have ne_b32_b96 : NE b32 b96 := NE.mk (Nat.lt_of_lt_of_le H35.ltb hb100)
        have ap_A33_b96 : Apart A33 b96 := H35.apart hb100
        have ne_b49_b96 : NE b49 b96 := NE.mk (Nat.lt_of_lt_of_le H52.ltb hb100)
        have ap_A50_b96 : Apart A50 b96 := H52.apart hb100
        have ap_A58_b96 : Apart A58 b96 := V60.apart hb100
        have ne_b42_b96 : NE b42 b96 := NE.mk (Nat.lt_of_lt_of_le B45.lt hb100)
        have ne_b9_b96 : NE b9 b96 := NE.mk (Nat.lt_of_lt_of_le H68.ltb hb100)
        have ap_A66_b96 : Apart A66 b96 := H68.apart hb100
        have ap_A74_b96 : Apart A74 b96 := OL.apart hb100
        have ne_b88_b96 : NE b88 b96 := NE.mk (Nat.lt_of_lt_of_le H91.ltb hb100)
        have ap_A89_b96 : Apart A89 b96 := H91.apart hb100
        have g_b96 := Nat.le_trans hF.size hb100
        have ap2_P_A97 : Apart2 P A97 := (new_apart2 hA101 fun _ hg => hV.lt hg).symm
        have ap_A97_b1 : Apart A97 b1 := new_apart hA101 B4.lt
        have ap2_V13_A97 : Apart2 V13 A97 := (new_apart2 hA101 fun _ hg => hW16.lt hg).symm
        have ap_A97_b25 : Apart A97 b25 := new_apart hA101 B28.lt
        have ap_A97_b32 : Apart A97 b32 := new_apart hA101 H35.ltb
        have ap2_A33_A97 : Apart2 A33 A97 := (new_apart2 hA101 fun _ hg => H35.lt hg).symm
        have ap_A97_b49 : Apart A97 b49 := new_apart hA101 H52.ltb
        have ap2_A50_A97 : Apart2 A50 A97 := (new_apart2 hA101 fun _ hg => H52.lt hg).symm
        have ap2_A58_A97 : Apart2 A58 A97 := (new_apart2 hA101 fun _ hg => V60.lt hg).symm
        have ap_A97_b42 : Apart A97 b42 := new_apart hA101 B45.lt
        have ap_A97_b9 : Apart A97 b9 := new_apart hA101 H68.ltb
        have ap2_A66_A97 : Apart2 A66 A97 := (new_apart2 hA101 fun _ hg => H68.lt hg).symm
        have ap2_A74_A97 : Apart2 A74 A97 := (new_apart2 hA101 fun _ hg => OL.lt hg).symm
        have ap_A97_b88 : Apart A97 b88 := new_apart hA101 H91.ltb
        have ap2_A89_A97 : Apart2 A89 A97 := (new_apart2 hA101 fun _ hg => H91.lt hg).symm
        have gA_A97 := gA_new hF hA101
        replace hV := hV.new hN103
        replace B4 := B4.new hN103
        replace hW16 := hW16.new hN103
        replace B28 := B28.new hN103
        replace H35 := H35.new hN103
        replace H52 := H52.new hN103
        replace V60 := V60.new hN103
        replace B45 := B45.new hN103
        replace H68 := H68.new hN103
        replace OL := OL.new hN103
        replace H91 := H91.new hN103
        replace hF := hF.trNew hN103
        refine fx_val (v := .tuple #[.pointer (some ⟨b96, 0, none⟩), .int .i64 0]) fr rfl rfl (by first | decide | simp) (x_move rfl (fr.ev rfl)) ?_
        clear fr a; intro a fr
        refine fx_val (v := .pointer (some ⟨b96, 0, none⟩)) fr rfl rfl (by first | decide | simp) (x_extract rfl (fr.ev rfl) rfl) ?_
        clear fr a; intro a fr
        refine fx_val (v := .int .i64 0) fr rfl rfl (by first | decide | simp) (x_extract rfl (fr.ev rfl) rfl) ?_
        clear fr a; intro a fr
        refine fx_val (v := .pointer (some ⟨b96, 0, none⟩)) fr rfl rfl (by first | decide | simp) (x_assign rfl (fr.ev rfl)) ?_
        clear fr a; intro a fr
        refine fx_val (v := .int .i64 0) fr rfl rfl (by first | decide | simp) (x_assign rfl (fr.ev rfl)) ?_
        clear fr a; intro a fr
        refine wpList_nil ?_
        refine fx_next ?_
        refine wp_seq ?_
        refine wp_region_lit ?_  -- region 22
        refine fx_val (v := .agg (msgE.arr (⟨13, 2, 4, 9, bs0⟩))) fr rfl rfl (by first | decide | simp) (x_build (cells := msgE.arr (⟨13, 2, 4, 9, bs0⟩)) rfl (by kernel_rfl)) ?_
        clear fr a; intro a fr
        refine fx_new fr rfl rfl (by first | decide | simp) (x_alloc (z := .agg (#[.int .i64 0, .int .i64 0, .int .i64 0, .int .u32 0, .int .u8 0, .int .u8 0, .int .u8 0, .int .u8 0, .int .u8 0, .int .u8 0, .int .u8 0, .int .u8 0, .int .u8 0, .int .u8 0, .int .u8 0, .int .u8 0, .int .u8 0, .int .u8 0, .int .u8 0, .int .u8 0])) (cs := msgE.arr msg0) rfl (by kernel_rfl) rfl) ?_
        clear fr a
        intro b104 w105 hN106 B107 hb108 a fr
        have ap_P_b104 : Apart P b104 := hV.apart hb108
        have ne_b1_b104 : NE b1 b104 := NE.mk (Nat.lt_of_lt_of_le B4.lt hb108)
        have ap_V13_b104 : Apart V13 b104 := hW16.apart hb108
        have ne_b25_b104 : NE b25 b104 := NE.mk (Nat.lt_of_lt_of_le B28.lt hb108)
        have ne_b32_b104 : NE b32 b104 := NE.mk (Nat.lt_of_lt_of_le H35.ltb hb108)
        have ap_A33_b104 : Apart A33 b104 := H35.apart hb108
        have ne_b49_b104 : NE b49 b104 := NE.mk (Nat.lt_of_lt_of_le H52.ltb hb108)
        have ap_A50_b104 : Apart A50 b104 := H52.apart hb108
        have ap_A58_b104 : Apart A58 b104 := V60.apart hb108
        have ne_b42_b104 : NE b42 b104 := NE.mk (Nat.lt_of_lt_of_le B45.lt hb108)
        have ne_b9_b104 : NE b9 b104 := NE.mk (Nat.lt_of_lt_of_le H68.ltb hb108)
        have ap_A66_b104 : Apart A66 b104 := H68.apart hb108
        have ap_A74_b104 : Apart A74 b104 := OL.apart hb108
        have ne_b88_b104 : NE b88 b104 := NE.mk (Nat.lt_of_lt_of_le H91.ltb hb108)
        have ap_A89_b104 : Apart A89 b104 := H91.apart hb108
        have ne_b96_b104 : NE b96 b104 := NE.mk (Nat.lt_of_lt_of_le H99.ltb hb108)
        have ap_A97_b104 : Apart A97 b104 := H99.apart hb108
        have g_b104 := Nat.le_trans hF.size hb108
        replace hV := hV.new hN106
        replace B4 := B4.new hN106
        replace hW16 := hW16.new hN106
        replace B28 := B28.new hN106
        replace H35 := H35.new hN106
        replace H52 := H52.new hN106
        replace V60 := V60.new hN106
        replace B45 := B45.new hN106
        replace H68 := H68.new hN106
        replace OL := OL.new hN106
        replace H91 := H91.new hN106
        replace H99 := H99.new hN106
        replace hF := hF.trNew hN106
        refine fx_storeS sz26 rfl rfl rfl (fr.ev rfl) (fr.ev rfl) (msgE.all _) B107 (msgE.size _) (msgE.size _) fun w109 hO110 hBq => ?_
        replace hV := hV.only hO110 (Apart.ne1 ap_P_b104)
        replace B4 := B4.only hO110 (by first | exact ne_b1_b104 | exact ne_b104_b1.symm | (show ¬ b1 = b104; omega))
        replace hW16 := hW16.only hO110 (Apart.ne1 ap_V13_b104)
        replace B28 := B28.only hO110 (by first | exact ne_b25_b104 | exact ne_b104_b25.symm | (show ¬ b25 = b104; omega))
        replace H35 := H35.only hO110 (by first | exact ne_b32_b104 | exact ne_b104_b32.symm | (show ¬ b32 = b104; omega)) (Apart.ne1 ap_A33_b104)
        replace H52 := H52.only hO110 (by first | exact ne_b49_b104 | exact ne_b104_b49.symm | (show ¬ b49 = b104; omega)) (Apart.ne1 ap_A50_b104)
        replace V60 := V60.only hO110 (Apart.ne1 ap_A58_b104)
        replace B45 := B45.only hO110 (by first | exact ne_b42_b104 | exact ne_b104_b42.symm | (show ¬ b42 = b104; omega))
        replace H68 := H68.only hO110 (by first | exact ne_b9_b104 | exact ne_b104_b9.symm | (show ¬ b9 = b104; omega)) (Apart.ne1 ap_A66_b104)
        replace OL := OL.only hO110 (Apart.ne1 ap_A74_b104)
        replace H91 := H91.only hO110 (by first | exact ne_b88_b104 | exact ne_b104_b88.symm | (show ¬ b88 = b104; omega)) (Apart.ne1 ap_A89_b104)
        replace H99 := H99.only hO110 (by first | exact ne_b96_b104 | exact ne_b104_b96.symm | (show ¬ b96 = b104; omega)) (Apart.ne1 ap_A97_b104)
        replace hF := hF.loc hO110 (.inr g_b104)
        replace B107 := hBq
        clear hBq
        refine wpList_nil ?_
        refine fx_next ?_
        refine wp_seq ?_
        have hs2 := sendL_le most l12 ⟨13, 2, 4, 9, bs0⟩
        refine wp_region_lit ?_  -- region 23
        refine fx_val (v := .agg (#[.int .i64 most, .slice V13 l12.length vc14])) fr rfl rfl (by first | decide | simp) (x_loadS ag49 rfl (fr.ev rfl) rfl B28.range) ?_
        clear fr a; intro a fr
        refine fx_val (v := .agg (msgE.arr (⟨13, 2, 4, 9, bs0⟩))) fr rfl rfl (by first | decide | simp) (x_loadE (E := msgE) ag26 rfl rfl (fr.ev rfl) (B107.rangeE msgE)) ?_
        clear fr a; intro a fr
        refine fx_call fr rfl rfl (by first | decide | simp) (x_call (vs := [.agg (#[.int .i64 most, .slice V13 l12.length vc14]), .agg (msgE.arr (⟨13, 2, 4, 9, bs0⟩))]) rfl rfl ⟨(fr.ev rfl), (fr.ev rfl), trivial⟩ Try.func23 nm23 rfl) (rsend_c (⟨13, 2, 4, 9, bs0⟩) hW16 (by omega)) ?_
        clear fr a
        rintro v w115 ⟨A111, cap112, rfl, V113, mv114, hN116⟩ a fr
        have ap_A111_b1 : Apart A111 b1 := moved_apart mv114 ap_V13_b1 B4.lt
        have ap_A111_b25 : Apart A111 b25 := moved_apart mv114 ap_V13_b25 B28.lt
        have ap_A111_b32 : Apart A111 b32 := moved_apart mv114 ap_V13_b32 H35.ltb
        have ap2_A111_A33 : Apart2 A111 A33 := moved_apart2 mv114 ap2_V13_A33 fun _ hg => H35.lt hg
        have ap_A111_b49 : Apart A111 b49 := moved_apart mv114 ap_V13_b49 H52.ltb
        have ap2_A111_A50 : Apart2 A111 A50 := moved_apart2 mv114 ap2_V13_A50 fun _ hg => H52.lt hg
        have ap_A111_b42 : Apart A111 b42 := moved_apart mv114 ap_V13_b42 B45.lt
        have ap_A111_b9 : Apart A111 b9 := moved_apart mv114 ap_V13_b9 H68.ltb
        have ap2_A111_A66 : Apart2 A111 A66 := moved_apart2 mv114 ap2_A66_V13.symm fun _ hg => H68.lt hg
        have ap2_A111_A74 : Apart2 A111 A74 := moved_apart2 mv114 ap2_V13_A74 fun _ hg => OL.lt hg
        have ap_A111_b88 : Apart A111 b88 := moved_apart mv114 ap_V13_b88 H91.ltb
        have ap2_A111_A89 : Apart2 A111 A89 := moved_apart2 mv114 ap2_V13_A89 fun _ hg => H91.lt hg
        have ap_A111_b96 : Apart A111 b96 := moved_apart mv114 ap_V13_b96 H99.ltb
        have ap2_A111_A97 : Apart2 A111 A97 := moved_apart2 mv114 ap2_V13_A97 fun _ hg => H99.lt hg
        have ap_A111_b104 : Apart A111 b104 := moved_apart mv114 ap_V13_b104 B107.lt
        have gA_A111 := gA_moved hF mv114 gA_V13
        replace hV := hV.new hN116
        replace B4 := B4.new hN116
        replace hW16 := hW16.new hN116
        replace B28 := B28.new hN116
        replace H35 := H35.new hN116
        replace H52 := H52.new hN116
        replace V60 := V60.new hN116
        replace B45 := B45.new hN116
        replace H68 := H68.new hN116
        replace OL := OL.new hN116
        replace H91 := H91.new hN116
        replace H99 := H99.new hN116
        replace B107 := B107.new hN116
        replace hF := hF.trNew hN116
        refine fx_val (v := .tuple #[.agg (#[.int .i64 most, .slice A111 ((sendL most l12 (⟨13, 2, 4, 9, bs0⟩)).length) cap112]), .int .i64 (sendE most l12 (⟨13, 2, 4, 9, bs0⟩))]) fr rfl rfl (by first | decide | simp) (x_move rfl (fr.ev rfl)) ?_
        clear fr a; intro a fr
        refine fx_val (v := .agg (#[.int .i64 most, .slice A111 ((sendL most l12 (⟨13, 2, 4, 9, bs0⟩)).length) cap112])) fr rfl rfl (by first | decide | simp) (x_extract rfl (fr.ev rfl) rfl) ?_
        clear fr a; intro a fr
        refine fx_val (v := .int .i64 (sendE most l12 (⟨13, 2, 4, 9, bs0⟩))) fr rfl rfl (by first | decide | simp) (x_extract rfl (fr.ev rfl) rfl) ?_
        clear fr a; intro a fr
        refine fx_new fr rfl rfl (by first | decide | simp) (x_alloc (z := .agg (#[.int .i64 0, .slice none 0 0])) (cs := #[.int .i64 0, .slice none 0 0]) rfl (by kernel_rfl) rfl) ?_
        clear fr a
        intro b117 w118 hN119 B120 hb121 a fr
        have ap_P_b117 : Apart P b117 := hV.apart hb121
        have ne_b1_b117 : NE b1 b117 := NE.mk (Nat.lt_of_lt_of_le B4.lt hb121)
        have ap_V13_b117 : Apart V13 b117 := hW16.apart hb121
        have ne_b25_b117 : NE b25 b117 := NE.mk (Nat.lt_of_lt_of_le B28.lt hb121)
        have ne_b32_b117 : NE b32 b117 := NE.mk (Nat.lt_of_lt_of_le H35.ltb hb121)
        have ap_A33_b117 : Apart A33 b117 := H35.apart hb121
        have ne_b49_b117 : NE b49 b117 := NE.mk (Nat.lt_of_lt_of_le H52.ltb hb121)
        have ap_A50_b117 : Apart A50 b117 := H52.apart hb121
        have ap_A58_b117 : Apart A58 b117 := V60.apart hb121
        have ne_b42_b117 : NE b42 b117 := NE.mk (Nat.lt_of_lt_of_le B45.lt hb121)
        have ne_b9_b117 : NE b9 b117 := NE.mk (Nat.lt_of_lt_of_le H68.ltb hb121)
        have ap_A66_b117 : Apart A66 b117 := H68.apart hb121
        have ap_A74_b117 : Apart A74 b117 := OL.apart hb121
        have ne_b88_b117 : NE b88 b117 := NE.mk (Nat.lt_of_lt_of_le H91.ltb hb121)
        have ap_A89_b117 : Apart A89 b117 := H91.apart hb121
        have ne_b96_b117 : NE b96 b117 := NE.mk (Nat.lt_of_lt_of_le H99.ltb hb121)
        have ap_A97_b117 : Apart A97 b117 := H99.apart hb121
        have ne_b104_b117 : NE b104 b117 := NE.mk (Nat.lt_of_lt_of_le B107.lt hb121)
        have ap_A111_b117 : Apart A111 b117 := V113.apart hb121
        have g_b117 := Nat.le_trans hF.size hb121
        replace hV := hV.new hN119
        replace B4 := B4.new hN119
        replace hW16 := hW16.new hN119
        replace B28 := B28.new hN119
        replace H35 := H35.new hN119
        replace H52 := H52.new hN119
        replace V60 := V60.new hN119
        replace B45 := B45.new hN119
        replace H68 := H68.new hN119
        replace OL := OL.new hN119
        replace H91 := H91.new hN119
        replace H99 := H99.new hN119
        replace B107 := B107.new hN119
        replace V113 := V113.new hN119
        replace hF := hF.trNew hN119
        refine fx_storeS sz49 rfl rfl rfl (fr.ev rfl) (fr.ev rfl) (by simp [Value.oneCell']) B120 rfl rfl fun w122 hO123 hBq => ?_
        replace hV := hV.only hO123 (Apart.ne1 ap_P_b117)
        replace B4 := B4.only hO123 (by first | exact ne_b1_b117 | exact ne_b117_b1.symm | (show ¬ b1 = b117; omega))
        replace hW16 := hW16.only hO123 (Apart.ne1 ap_V13_b117)
        replace B28 := B28.only hO123 (by first | exact ne_b25_b117 | exact ne_b117_b25.symm | (show ¬ b25 = b117; omega))
        replace H35 := H35.only hO123 (by first | exact ne_b32_b117 | exact ne_b117_b32.symm | (show ¬ b32 = b117; omega)) (Apart.ne1 ap_A33_b117)
        replace H52 := H52.only hO123 (by first | exact ne_b49_b117 | exact ne_b117_b49.symm | (show ¬ b49 = b117; omega)) (Apart.ne1 ap_A50_b117)
        replace V60 := V60.only hO123 (Apart.ne1 ap_A58_b117)
        replace B45 := B45.only hO123 (by first | exact ne_b42_b117 | exact ne_b117_b42.symm | (show ¬ b42 = b117; omega))
        replace H68 := H68.only hO123 (by first | exact ne_b9_b117 | exact ne_b117_b9.symm | (show ¬ b9 = b117; omega)) (Apart.ne1 ap_A66_b117)
        replace OL := OL.only hO123 (Apart.ne1 ap_A74_b117)
        replace H91 := H91.only hO123 (by first | exact ne_b88_b117 | exact ne_b117_b88.symm | (show ¬ b88 = b117; omega)) (Apart.ne1 ap_A89_b117)
        replace H99 := H99.only hO123 (by first | exact ne_b96_b117 | exact ne_b117_b96.symm | (show ¬ b96 = b117; omega)) (Apart.ne1 ap_A97_b117)
        replace B107 := B107.only hO123 (by first | exact ne_b104_b117 | exact ne_b117_b104.symm | (show ¬ b104 = b117; omega))
        replace V113 := V113.only hO123 (Apart.ne1 ap_A111_b117)
        replace hF := hF.loc hO123 (.inr g_b117)
        replace B120 := hBq
        clear hBq
        refine fx_val (v := .int .i64 (sendE most l12 (⟨13, 2, 4, 9, bs0⟩))) fr rfl rfl (by first | decide | simp) (x_assign rfl (fr.ev rfl)) ?_
        clear fr a; intro a fr
        refine wpList_nil ?_
        refine fx_next ?_
        refine wp_seq ?_
        refine wp_region_lit ?_  -- region 24
        refine fx_val (v := .pointer (some ⟨b32, 0, none⟩)) fr rfl rfl (by first | decide | simp) (x_move rfl (fr.ev rfl)) ?_
        clear fr a; intro a fr
        refine fx_call fr rfl rfl (by first | decide | simp) (x_call (vs := [.pointer (some ⟨b32, 0, none⟩)]) rfl rfl ⟨(fr.ev rfl), trivial⟩ Try.func26 nm26 rfl) (copy_c H35 (by omega) (by omega)) ?_
        clear fr a
        rintro v w130 ⟨b124, A125, cap126, rfl, H127, hb128, hA129, hN131⟩ a fr
        have ap_P_b124 : Apart P b124 := hV.apart hb128
        have ne_b1_b124 : NE b1 b124 := NE.mk (Nat.lt_of_lt_of_le B4.lt hb128)
        have ap_V13_b124 : Apart V13 b124 := hW16.apart hb128
        have ne_b25_b124 : NE b25 b124 := NE.mk (Nat.lt_of_lt_of_le B28.lt hb128)
        have ne_b32_b124 : NE b32 b124 := NE.mk (Nat.lt_of_lt_of_le H35.ltb hb128)
        have ap_A33_b124 : Apart A33 b124 := H35.apart hb128
        have ne_b49_b124 : NE b49 b124 := NE.mk (Nat.lt_of_lt_of_le H52.ltb hb128)
        have ap_A50_b124 : Apart A50 b124 := H52.apart hb128
        have ap_A58_b124 : Apart A58 b124 := V60.apart hb128
        have ne_b42_b124 : NE b42 b124 := NE.mk (Nat.lt_of_lt_of_le B45.lt hb128)
        have ne_b9_b124 : NE b9 b124 := NE.mk (Nat.lt_of_lt_of_le H68.ltb hb128)
        have ap_A66_b124 : Apart A66 b124 := H68.apart hb128
        have ap_A74_b124 : Apart A74 b124 := OL.apart hb128
        have ne_b88_b124 : NE b88 b124 := NE.mk (Nat.lt_of_lt_of_le H91.ltb hb128)
        have ap_A89_b124 : Apart A89 b124 := H91.apart hb128
        have ne_b96_b124 : NE b96 b124 := NE.mk (Nat.lt_of_lt_of_le H99.ltb hb128)
        have ap_A97_b124 : Apart A97 b124 := H99.apart hb128
        have ne_b104_b124 : NE b104 b124 := NE.mk (Nat.lt_of_lt_of_le B107.lt hb128)
        have ap_A111_b124 : Apart A111 b124 := V113.apart hb128
        have ne_b117_b124 : NE b117 b124 := NE.mk (Nat.lt_of_lt_of_le B120.lt hb128)
        have g_b124 := Nat.le_trans hF.size hb128
        have ap2_P_A125 : Apart2 P A125 := (new_apart2 hA129 fun _ hg => hV.lt hg).symm
        have ap_A125_b1 : Apart A125 b1 := new_apart hA129 B4.lt
        have ap2_V13_A125 : Apart2 V13 A125 := (new_apart2 hA129 fun _ hg => hW16.lt hg).symm
        have ap_A125_b25 : Apart A125 b25 := new_apart hA129 B28.lt
        have ap_A125_b32 : Apart A125 b32 := new_apart hA129 H35.ltb
        have ap2_A33_A125 : Apart2 A33 A125 := (new_apart2 hA129 fun _ hg => H35.lt hg).symm
        have ap_A125_b49 : Apart A125 b49 := new_apart hA129 H52.ltb
        have ap2_A50_A125 : Apart2 A50 A125 := (new_apart2 hA129 fun _ hg => H52.lt hg).symm
        have ap2_A58_A125 : Apart2 A58 A125 := (new_apart2 hA129 fun _ hg => V60.lt hg).symm
        have ap_A125_b42 : Apart A125 b42 := new_apart hA129 B45.lt
        have ap_A125_b9 : Apart A125 b9 := new_apart hA129 H68.ltb
        have ap2_A66_A125 : Apart2 A66 A125 := (new_apart2 hA129 fun _ hg => H68.lt hg).symm
        have ap2_A74_A125 : Apart2 A74 A125 := (new_apart2 hA129 fun _ hg => OL.lt hg).symm
        have ap_A125_b88 : Apart A125 b88 := new_apart hA129 H91.ltb
        have ap2_A89_A125 : Apart2 A89 A125 := (new_apart2 hA129 fun _ hg => H91.lt hg).symm
        have ap_A125_b96 : Apart A125 b96 := new_apart hA129 H99.ltb
        have ap2_A97_A125 : Apart2 A97 A125 := (new_apart2 hA129 fun _ hg => H99.lt hg).symm
        have ap_A125_b104 : Apart A125 b104 := new_apart hA129 B107.lt
        have ap2_A111_A125 : Apart2 A111 A125 := (new_apart2 hA129 fun _ hg => V113.lt hg).symm
        have ap_A125_b117 : Apart A125 b117 := new_apart hA129 B120.lt
        have gA_A125 := gA_new hF hA129
        replace hV := hV.new hN131
        replace B4 := B4.new hN131
        replace hW16 := hW16.new hN131
        replace B28 := B28.new hN131
        replace H35 := H35.new hN131
        replace H52 := H52.new hN131
        replace V60 := V60.new hN131
        replace B45 := B45.new hN131
        replace H68 := H68.new hN131
        replace OL := OL.new hN131
        replace H91 := H91.new hN131
        replace H99 := H99.new hN131
        replace B107 := B107.new hN131
        replace V113 := V113.new hN131
        replace B120 := B120.new hN131
        replace hF := hF.trNew hN131
        refine fx_val (v := .pointer (some ⟨b124, 0, none⟩)) fr rfl rfl (by first | decide | simp) (x_assign rfl (fr.ev rfl)) ?_
        clear fr a; intro a fr
        refine wpList_nil ?_
        refine fx_next ?_
        refine wp_seq ?_
        refine wp_seq ?_
        refine wp_region_lit ?_  -- region 25
        refine fx_val (v := .pointer (some ⟨b124, 0, none⟩)) fr rfl rfl (by first | decide | simp) (x_move rfl (fr.ev rfl)) ?_
        clear fr a; intro a fr
        refine fx_val (v := .agg (msgE.arr (⟨13, 2, 4, 9, bs0⟩))) fr rfl rfl (by first | decide | simp) (x_loadE (E := msgE) ag26 rfl rfl (fr.ev rfl) (B107.rangeE msgE)) ?_
        clear fr a; intro a fr
        refine fx_call fr rfl rfl (by first | decide | simp) (x_call (vs := [.pointer (some ⟨b124, 0, none⟩), .agg (msgE.arr (⟨13, 2, 4, 9, bs0⟩))]) rfl rfl ⟨(fr.ev rfl), (fr.ev rfl), trivial⟩ Try.func15 nm15 rfl) (send_c (⟨13, 2, 4, 9, bs0⟩) H127 (by omega) (by omega)) ?_
        clear fr a
        rintro v w136 ⟨rfl, A132, cap133, H134, hN137, mv135⟩ a fr
        have ap2_A132_P : Apart2 A132 P := moved_apart2 mv135 ap2_P_A125.symm fun _ hg => hV.lt hg
        have ap_A132_b1 : Apart A132 b1 := moved_apart mv135 ap_A125_b1 B4.lt
        have ap2_A132_V13 : Apart2 A132 V13 := moved_apart2 mv135 ap2_V13_A125.symm fun _ hg => hW16.lt hg
        have ap_A132_b25 : Apart A132 b25 := moved_apart mv135 ap_A125_b25 B28.lt
        have ap_A132_b32 : Apart A132 b32 := moved_apart mv135 ap_A125_b32 H35.ltb
        have ap2_A132_A33 : Apart2 A132 A33 := moved_apart2 mv135 ap2_A33_A125.symm fun _ hg => H35.lt hg
        have ap_A132_b49 : Apart A132 b49 := moved_apart mv135 ap_A125_b49 H52.ltb
        have ap2_A132_A50 : Apart2 A132 A50 := moved_apart2 mv135 ap2_A50_A125.symm fun _ hg => H52.lt hg
        have ap2_A132_A58 : Apart2 A132 A58 := moved_apart2 mv135 ap2_A58_A125.symm fun _ hg => V60.lt hg
        have ap_A132_b42 : Apart A132 b42 := moved_apart mv135 ap_A125_b42 B45.lt
        have ap_A132_b9 : Apart A132 b9 := moved_apart mv135 ap_A125_b9 H68.ltb
        have ap2_A132_A66 : Apart2 A132 A66 := moved_apart2 mv135 ap2_A66_A125.symm fun _ hg => H68.lt hg
        have ap2_A132_A74 : Apart2 A132 A74 := moved_apart2 mv135 ap2_A74_A125.symm fun _ hg => OL.lt hg
        have ap_A132_b88 : Apart A132 b88 := moved_apart mv135 ap_A125_b88 H91.ltb
        have ap2_A132_A89 : Apart2 A132 A89 := moved_apart2 mv135 ap2_A89_A125.symm fun _ hg => H91.lt hg
        have ap_A132_b96 : Apart A132 b96 := moved_apart mv135 ap_A125_b96 H99.ltb
        have ap2_A132_A97 : Apart2 A132 A97 := moved_apart2 mv135 ap2_A97_A125.symm fun _ hg => H99.lt hg
        have ap_A132_b104 : Apart A132 b104 := moved_apart mv135 ap_A125_b104 B107.lt
        have ap2_A132_A111 : Apart2 A132 A111 := moved_apart2 mv135 ap2_A111_A125.symm fun _ hg => V113.lt hg
        have ap_A132_b117 : Apart A132 b117 := moved_apart mv135 ap_A125_b117 B120.lt
        have gA_A132 := gA_moved hF mv135 gA_A125
        replace hV := hV.only hN137 (fun g hg h => h.elim ((Apart.ne1 ap_P_b124) g hg) ((fun g h1 h2 => ap2_P_A125 g h1 h2) g hg))
        replace B4 := B4.only hN137 (fun h => h.elim (by first | exact ne_b1_b124 | exact ne_b124_b1.symm | (show ¬ b1 = b124; omega)) ap_A125_b1)
        replace hW16 := hW16.only hN137 (fun g hg h => h.elim ((Apart.ne1 ap_V13_b124) g hg) ((fun g h1 h2 => ap2_V13_A125 g h1 h2) g hg))
        replace B28 := B28.only hN137 (fun h => h.elim (by first | exact ne_b25_b124 | exact ne_b124_b25.symm | (show ¬ b25 = b124; omega)) ap_A125_b25)
        replace H35 := H35.only hN137 (fun h => h.elim (by first | exact ne_b32_b124 | exact ne_b124_b32.symm | (show ¬ b32 = b124; omega)) ap_A125_b32) (fun g hg h => h.elim ((Apart.ne1 ap_A33_b124) g hg) ((fun g h1 h2 => ap2_A33_A125 g h1 h2) g hg))
        replace H52 := H52.only hN137 (fun h => h.elim (by first | exact ne_b49_b124 | exact ne_b124_b49.symm | (show ¬ b49 = b124; omega)) ap_A125_b49) (fun g hg h => h.elim ((Apart.ne1 ap_A50_b124) g hg) ((fun g h1 h2 => ap2_A50_A125 g h1 h2) g hg))
        replace V60 := V60.only hN137 (fun g hg h => h.elim ((Apart.ne1 ap_A58_b124) g hg) ((fun g h1 h2 => ap2_A58_A125 g h1 h2) g hg))
        replace B45 := B45.only hN137 (fun h => h.elim (by first | exact ne_b42_b124 | exact ne_b124_b42.symm | (show ¬ b42 = b124; omega)) ap_A125_b42)
        replace H68 := H68.only hN137 (fun h => h.elim (by first | exact ne_b9_b124 | exact ne_b124_b9.symm | (show ¬ b9 = b124; omega)) ap_A125_b9) (fun g hg h => h.elim ((Apart.ne1 ap_A66_b124) g hg) ((fun g h1 h2 => ap2_A66_A125 g h1 h2) g hg))
        replace OL := OL.only hN137 (fun g hg h => h.elim ((Apart.ne1 ap_A74_b124) g hg) ((fun g h1 h2 => ap2_A74_A125 g h1 h2) g hg))
        replace H91 := H91.only hN137 (fun h => h.elim (by first | exact ne_b88_b124 | exact ne_b124_b88.symm | (show ¬ b88 = b124; omega)) ap_A125_b88) (fun g hg h => h.elim ((Apart.ne1 ap_A89_b124) g hg) ((fun g h1 h2 => ap2_A89_A125 g h1 h2) g hg))
        replace H99 := H99.only hN137 (fun h => h.elim (by first | exact ne_b96_b124 | exact ne_b124_b96.symm | (show ¬ b96 = b124; omega)) ap_A125_b96) (fun g hg h => h.elim ((Apart.ne1 ap_A97_b124) g hg) ((fun g h1 h2 => ap2_A97_A125 g h1 h2) g hg))
        replace B107 := B107.only hN137 (fun h => h.elim (by first | exact ne_b104_b124 | exact ne_b124_b104.symm | (show ¬ b104 = b124; omega)) ap_A125_b104)
        replace V113 := V113.only hN137 (fun g hg h => h.elim ((Apart.ne1 ap_A111_b124) g hg) ((fun g h1 h2 => ap2_A111_A125 g h1 h2) g hg))
        replace B120 := B120.only hN137 (fun h => h.elim (by first | exact ne_b117_b124 | exact ne_b124_b117.symm | (show ¬ b117 = b124; omega)) ap_A125_b117)
        replace hF := hF.loc2 hN137 (.inr g_b124) gA_A125
        clear H127
        refine fx_call fr rfl rfl (by first | decide | simp) (x_call (vs := [.int .i64 (sendE most l12 (⟨13, 2, 4, 9, bs0⟩))]) rfl rfl ⟨(fr.ev rfl), trivial⟩ Try.func10 nm10 rfl) (num_c (sendE most l12 (⟨13, 2, 4, 9, bs0⟩)) _) ?_
        clear fr a
        rintro v _ ⟨rfl, rfl⟩ a fr
        refine fx_val (v := .int .i64 (sendE most l12 (⟨13, 2, 4, 9, bs0⟩))) fr rfl rfl (by first | decide | simp) (x_move rfl (fr.ev rfl)) ?_
        clear fr a; intro a fr
        refine fx_val (v := .bool false) fr rfl rfl (by first | decide | simp) (x_neq rfl (fr.ev rfl) (fr.ev rfl) (by simp)) ?_
        clear fr a; intro a fr
        refine fx_val (v := .bool false) fr rfl rfl (by first | decide | simp) (x_move rfl (fr.ev rfl)) ?_
        clear fr a; intro a fr
        refine fx_val (v := .pointer (some ⟨b124, 0, none⟩)) fr (fr.want rfl rfl rfl) rfl (by first | decide | simp) (x_move rfl (fr.ev rfl)) ?_
        clear fr a; intro a fr
        refine fx_val (v := .agg (#[.int .i64 most, .slice A111 ((sendL most l12 (⟨13, 2, 4, 9, bs0⟩)).length) cap112])) fr (fr.want rfl rfl rfl) rfl (by first | decide | simp) (x_loadS ag49 rfl (fr.ev rfl) rfl B120.range) ?_
        clear fr a; intro a fr
        refine fx_call fr (fr.want rfl rfl rfl) rfl (by first | decide | simp) (x_call (vs := [.pointer (some ⟨b124, 0, none⟩), .agg (#[.int .i64 most, .slice A111 ((sendL most l12 (⟨13, 2, 4, 9, bs0⟩)).length) cap112])]) rfl rfl ⟨(fr.ev rfl), (fr.ev rfl), trivial⟩ Try.func22 nm22 rfl) (is_c H134 V113 (by omega) (by omega)) ?_
        clear fr a
        rintro v w140 ⟨rfl, hN141⟩ a fr
        replace hV := hV.new hN141
        replace B4 := B4.new hN141
        replace hW16 := hW16.new hN141
        replace B28 := B28.new hN141
        replace H35 := H35.new hN141
        replace H52 := H52.new hN141
        replace V60 := V60.new hN141
        replace B45 := B45.new hN141
        replace H68 := H68.new hN141
        replace OL := OL.new hN141
        replace H91 := H91.new hN141
        replace H99 := H99.new hN141
        replace B107 := B107.new hN141
        replace V113 := V113.new hN141
        replace B120 := B120.new hN141
        replace H134 := H134.new hN141
        replace hF := hF.trNew hN141
        refine fx_val (v := .bool false) fr (fr.want rfl rfl rfl) rfl (by first | decide | simp) (x_not rfl (fr.ev rfl) rfl) ?_
        clear fr a; intro a fr
        refine fx_val (v := .bool false) fr rfl rfl (by first | decide | simp) (x_pick_f rfl (fr.ev rfl) (fr.ev rfl)) ?_
        clear fr a; intro a fr
        refine fx_val (v := .bool false) fr rfl rfl (by first | decide | simp) (x_move rfl (fr.ev rfl)) ?_
        clear fr a; intro a fr
        refine fx_val (v := .pointer (some ⟨b49, 0, none⟩)) fr (fr.want rfl rfl rfl) rfl (by first | decide | simp) (x_move rfl (fr.ev rfl)) ?_
        clear fr a; intro a fr
        refine fx_val (v := .agg (msgE.arr (⟨13, 2, 4, 9, bs0⟩))) fr (fr.want rfl rfl rfl) rfl (by first | decide | simp) (x_loadE (E := msgE) ag26 rfl rfl (fr.ev rfl) (B107.rangeE msgE)) ?_
        clear fr a; intro a fr
        refine fx_call fr (fr.want rfl rfl rfl) rfl (by first | decide | simp) (x_call (vs := [.pointer (some ⟨b49, 0, none⟩), .agg (msgE.arr (⟨13, 2, 4, 9, bs0⟩))]) rfl rfl ⟨(fr.ev rfl), (fr.ev rfl), trivial⟩ Try.func15 nm15 rfl) (send_c (⟨13, 2, 4, 9, bs0⟩) H52 (by omega) (by omega)) ?_
        clear fr a
        rintro v w146 ⟨rfl, A142, cap143, H144, hN147, mv145⟩ a fr
        have ap2_A142_P : Apart2 A142 P := moved_apart2 mv145 ap2_P_A50.symm fun _ hg => hV.lt hg
        have ap_A142_b1 : Apart A142 b1 := moved_apart mv145 ap_A50_b1 B4.lt
        have ap2_A142_V13 : Apart2 A142 V13 := moved_apart2 mv145 ap2_V13_A50.symm fun _ hg => hW16.lt hg
        have ap_A142_b25 : Apart A142 b25 := moved_apart mv145 ap_A50_b25 B28.lt
        have ap_A142_b32 : Apart A142 b32 := moved_apart mv145 ap_A50_b32 H35.ltb
        have ap2_A142_A33 : Apart2 A142 A33 := moved_apart2 mv145 ap2_A33_A50.symm fun _ hg => H35.lt hg
        have ap2_A142_A58 : Apart2 A142 A58 := moved_apart2 mv145 ap2_A58_A50.symm fun _ hg => V60.lt hg
        have ap_A142_b42 : Apart A142 b42 := moved_apart mv145 ap_A50_b42 B45.lt
        have ap_A142_b9 : Apart A142 b9 := moved_apart mv145 ap_A50_b9 H68.ltb
        have ap2_A142_A66 : Apart2 A142 A66 := moved_apart2 mv145 ap2_A66_A50.symm fun _ hg => H68.lt hg
        have ap2_A142_A74 : Apart2 A142 A74 := moved_apart2 mv145 ap2_A50_A74 fun _ hg => OL.lt hg
        have ap_A142_b88 : Apart A142 b88 := moved_apart mv145 ap_A50_b88 H91.ltb
        have ap2_A142_A89 : Apart2 A142 A89 := moved_apart2 mv145 ap2_A50_A89 fun _ hg => H91.lt hg
        have ap_A142_b96 : Apart A142 b96 := moved_apart mv145 ap_A50_b96 H99.ltb
        have ap2_A142_A97 : Apart2 A142 A97 := moved_apart2 mv145 ap2_A50_A97 fun _ hg => H99.lt hg
        have ap_A142_b104 : Apart A142 b104 := moved_apart mv145 ap_A50_b104 B107.lt
        have ap2_A142_A111 : Apart2 A142 A111 := moved_apart2 mv145 ap2_A111_A50.symm fun _ hg => V113.lt hg
        have ap_A142_b117 : Apart A142 b117 := moved_apart mv145 ap_A50_b117 B120.lt
        have ap_A142_b124 : Apart A142 b124 := moved_apart mv145 ap_A50_b124 H134.ltb
        have ap2_A142_A132 : Apart2 A142 A132 := moved_apart2 mv145 ap2_A132_A50.symm fun _ hg => H134.lt hg
        have gA_A142 := gA_moved hF mv145 gA_A50
        replace hV := hV.only hN147 (fun g hg h => h.elim ((Apart.ne1 ap_P_b49) g hg) ((fun g h1 h2 => ap2_P_A50 g h1 h2) g hg))
        replace B4 := B4.only hN147 (fun h => h.elim (by first | exact ne_b1_b49 | exact ne_b49_b1.symm | (show ¬ b1 = b49; omega)) ap_A50_b1)
        replace hW16 := hW16.only hN147 (fun g hg h => h.elim ((Apart.ne1 ap_V13_b49) g hg) ((fun g h1 h2 => ap2_V13_A50 g h1 h2) g hg))
        replace B28 := B28.only hN147 (fun h => h.elim (by first | exact ne_b25_b49 | exact ne_b49_b25.symm | (show ¬ b25 = b49; omega)) ap_A50_b25)
        replace H35 := H35.only hN147 (fun h => h.elim (by first | exact ne_b32_b49 | exact ne_b49_b32.symm | (show ¬ b32 = b49; omega)) ap_A50_b32) (fun g hg h => h.elim ((Apart.ne1 ap_A33_b49) g hg) ((fun g h1 h2 => ap2_A33_A50 g h1 h2) g hg))
        replace V60 := V60.only hN147 (fun g hg h => h.elim ((Apart.ne1 ap_A58_b49) g hg) ((fun g h1 h2 => ap2_A58_A50 g h1 h2) g hg))
        replace B45 := B45.only hN147 (fun h => h.elim (by first | exact ne_b42_b49 | exact ne_b49_b42.symm | (show ¬ b42 = b49; omega)) ap_A50_b42)
        replace H68 := H68.only hN147 (fun h => h.elim (by first | exact ne_b9_b49 | exact ne_b49_b9.symm | (show ¬ b9 = b49; omega)) ap_A50_b9) (fun g hg h => h.elim ((Apart.ne1 ap_A66_b49) g hg) ((fun g h1 h2 => ap2_A66_A50 g h1 h2) g hg))
        replace OL := OL.only hN147 (fun g hg h => h.elim ((Apart.ne1 ap_A74_b49) g hg) ((fun g h1 h2 => ap2_A50_A74.symm g h1 h2) g hg))
        replace H91 := H91.only hN147 (fun h => h.elim (by first | exact ne_b88_b49 | exact ne_b49_b88.symm | (show ¬ b88 = b49; omega)) ap_A50_b88) (fun g hg h => h.elim ((Apart.ne1 ap_A89_b49) g hg) ((fun g h1 h2 => ap2_A50_A89.symm g h1 h2) g hg))
        replace H99 := H99.only hN147 (fun h => h.elim (by first | exact ne_b96_b49 | exact ne_b49_b96.symm | (show ¬ b96 = b49; omega)) ap_A50_b96) (fun g hg h => h.elim ((Apart.ne1 ap_A97_b49) g hg) ((fun g h1 h2 => ap2_A50_A97.symm g h1 h2) g hg))
        replace B107 := B107.only hN147 (fun h => h.elim (by first | exact ne_b104_b49 | exact ne_b49_b104.symm | (show ¬ b104 = b49; omega)) ap_A50_b104)
        replace V113 := V113.only hN147 (fun g hg h => h.elim ((Apart.ne1 ap_A111_b49) g hg) ((fun g h1 h2 => ap2_A111_A50 g h1 h2) g hg))
        replace B120 := B120.only hN147 (fun h => h.elim (by first | exact ne_b117_b49 | exact ne_b49_b117.symm | (show ¬ b117 = b49; omega)) ap_A50_b117)
        replace H134 := H134.only hN147 (fun h => h.elim (by first | exact ne_b124_b49 | exact ne_b49_b124.symm | (show ¬ b124 = b49; omega)) ap_A50_b124) (fun g hg h => h.elim ((Apart.ne1 ap_A132_b49) g hg) ((fun g h1 h2 => ap2_A132_A50 g h1 h2) g hg))
        replace hF := hF.loc2 hN147 (.inr g_b49) gA_A50
        clear H52
        refine fx_call fr (fr.want rfl rfl rfl) rfl (by first | decide | simp) (x_call (vs := [.int .i64 (sendE most l12 (⟨13, 2, 4, 9, bs0⟩))]) rfl rfl ⟨(fr.ev rfl), trivial⟩ Try.func10 nm10 rfl) (num_c (sendE most l12 (⟨13, 2, 4, 9, bs0⟩)) _) ?_
        clear fr a
        rintro v _ ⟨rfl, rfl⟩ a fr
        refine fx_val (v := .int .i64 (sendE most l12 (⟨13, 2, 4, 9, bs0⟩))) fr (fr.want rfl rfl rfl) rfl (by first | decide | simp) (x_move rfl (fr.ev rfl)) ?_
        clear fr a; intro a fr
        refine fx_val (v := .bool false) fr (fr.want rfl rfl rfl) rfl (by first | decide | simp) (x_neq rfl (fr.ev rfl) (fr.ev rfl) (by simp)) ?_
        clear fr a; intro a fr
        refine fx_val (v := .bool false) fr rfl rfl (by first | decide | simp) (x_pick_f rfl (fr.ev rfl) (fr.ev rfl)) ?_
        clear fr a; intro a fr
        refine fx_val (v := .bool false) fr rfl rfl (by first | decide | simp) (x_move rfl (fr.ev rfl)) ?_
        clear fr a; intro a fr
        refine fx_val (v := .pointer (some ⟨b49, 0, none⟩)) fr (fr.want rfl rfl rfl) rfl (by first | decide | simp) (x_move rfl (fr.ev rfl)) ?_
        clear fr a; intro a fr
        refine fx_val (v := .agg (#[.int .i64 most, .slice A111 ((sendL most l12 (⟨13, 2, 4, 9, bs0⟩)).length) cap112])) fr (fr.want rfl rfl rfl) rfl (by first | decide | simp) (x_loadS ag49 rfl (fr.ev rfl) rfl B120.range) ?_
        clear fr a; intro a fr
        refine fx_call fr (fr.want rfl rfl rfl) rfl (by first | decide | simp) (x_call (vs := [.pointer (some ⟨b49, 0, none⟩), .agg (#[.int .i64 most, .slice A111 ((sendL most l12 (⟨13, 2, 4, 9, bs0⟩)).length) cap112])]) rfl rfl ⟨(fr.ev rfl), (fr.ev rfl), trivial⟩ Try.func22 nm22 rfl) (is_c H144 V113 (by omega) (by omega)) ?_
        clear fr a
        rintro v w150 ⟨rfl, hN151⟩ a fr
        replace hV := hV.new hN151
        replace B4 := B4.new hN151
        replace hW16 := hW16.new hN151
        replace B28 := B28.new hN151
        replace H35 := H35.new hN151
        replace V60 := V60.new hN151
        replace B45 := B45.new hN151
        replace H68 := H68.new hN151
        replace OL := OL.new hN151
        replace H91 := H91.new hN151
        replace H99 := H99.new hN151
        replace B107 := B107.new hN151
        replace V113 := V113.new hN151
        replace B120 := B120.new hN151
        replace H134 := H134.new hN151
        replace H144 := H144.new hN151
        replace hF := hF.trNew hN151
        refine fx_val (v := .bool false) fr (fr.want rfl rfl rfl) rfl (by first | decide | simp) (x_not rfl (fr.ev rfl) rfl) ?_
        clear fr a; intro a fr
        refine fx_val (v := .bool false) fr rfl rfl (by first | decide | simp) (x_pick_f rfl (fr.ev rfl) (fr.ev rfl)) ?_
        clear fr a; intro a fr
        refine wpList_nil ?_
        refine fx_next ?_
        refine fx_cond_f fr rfl ?_
        refine wp_skip ?_
        refine fx_next ?_
        refine wp_seq ?_
        refine wp_region_lit ?_  -- region 27
        refine fx_val (v := .pointer (some ⟨b32, 0, none⟩)) fr rfl rfl (by first | decide | simp) (x_move rfl (fr.ev rfl)) ?_
        clear fr a; intro a fr
        refine fx_val (v := .agg (#[.int .i64 most, .slice V13 l12.length vc14])) fr rfl rfl (by first | decide | simp) (x_loadS ag49 rfl (fr.ev rfl) rfl B28.range) ?_
        clear fr a; intro a fr
        refine fx_call fr rfl rfl (by first | decide | simp) (x_call (vs := [.pointer (some ⟨b32, 0, none⟩), .agg (#[.int .i64 most, .slice V13 l12.length vc14])]) rfl rfl ⟨(fr.ev rfl), (fr.ev rfl), trivial⟩ Try.func22 nm22 rfl) (is_c H35 hW16 (by omega) (by omega)) ?_
        clear fr a
        rintro v w152 ⟨rfl, hN153⟩ a fr
        replace hV := hV.new hN153
        replace B4 := B4.new hN153
        replace hW16 := hW16.new hN153
        replace B28 := B28.new hN153
        replace H35 := H35.new hN153
        replace V60 := V60.new hN153
        replace B45 := B45.new hN153
        replace H68 := H68.new hN153
        replace OL := OL.new hN153
        replace H91 := H91.new hN153
        replace H99 := H99.new hN153
        replace B107 := B107.new hN153
        replace V113 := V113.new hN153
        replace B120 := B120.new hN153
        replace H134 := H134.new hN153
        replace H144 := H144.new hN153
        replace hF := hF.trNew hN153
        refine fx_val (v := .bool true) fr rfl rfl (by first | decide | simp) (x_move rfl (fr.ev rfl)) ?_
        clear fr a; intro a fr
        refine fx_val (v := .pointer (some ⟨b9, 0, none⟩)) fr (fr.want rfl rfl rfl) rfl (by first | decide | simp) (x_move rfl (fr.ev rfl)) ?_
        clear fr a; intro a fr
        refine fx_val (v := .agg (#[.int .i64 most, .slice A58 ((delL x.pick l12).length) cap59])) fr (fr.want rfl rfl rfl) rfl (by first | decide | simp) (x_loadS ag49 rfl (fr.ev rfl) rfl B45.range) ?_
        clear fr a; intro a fr
        refine fx_call fr (fr.want rfl rfl rfl) rfl (by first | decide | simp) (x_call (vs := [.pointer (some ⟨b9, 0, none⟩), .agg (#[.int .i64 most, .slice A58 ((delL x.pick l12).length) cap59])]) rfl rfl ⟨(fr.ev rfl), (fr.ev rfl), trivial⟩ Try.func22 nm22 rfl) (is_c H68 V60 (by omega) (by omega)) ?_
        clear fr a
        rintro v w154 ⟨rfl, hN155⟩ a fr
        replace hV := hV.new hN155
        replace B4 := B4.new hN155
        replace hW16 := hW16.new hN155
        replace B28 := B28.new hN155
        replace H35 := H35.new hN155
        replace V60 := V60.new hN155
        replace B45 := B45.new hN155
        replace H68 := H68.new hN155
        replace OL := OL.new hN155
        replace H91 := H91.new hN155
        replace H99 := H99.new hN155
        replace B107 := B107.new hN155
        replace V113 := V113.new hN155
        replace B120 := B120.new hN155
        replace H134 := H134.new hN155
        replace H144 := H144.new hN155
        replace hF := hF.trNew hN155
        refine fx_val (v := .bool true) fr rfl rfl (by first | decide | simp) (x_pick_t rfl (fr.ev rfl) (fr.ev rfl)) ?_
        clear fr a; intro a fr
        refine fx_val (v := .bool true) fr rfl rfl (by first | decide | simp) (x_move rfl (fr.ev rfl)) ?_
        clear fr a; intro a fr
        refine fx_val (v := .pointer (some ⟨b9, 0, none⟩)) fr (fr.want rfl rfl rfl) rfl (by first | decide | simp) (x_move rfl (fr.ev rfl)) ?_
        clear fr a; intro a fr
        refine fx_val (v := .pointer (some ⟨b32, 0, none⟩)) fr (fr.want rfl rfl rfl) rfl (by first | decide | simp) (x_move rfl (fr.ev rfl)) ?_
        clear fr a; intro a fr
        refine fx_call fr (fr.want rfl rfl rfl) rfl (by first | decide | simp) (x_call (vs := [.pointer (some ⟨b9, 0, none⟩), .pointer (some ⟨b32, 0, none⟩)]) rfl rfl ⟨(fr.ev rfl), (fr.ev rfl), trivial⟩ Try.func27 nm27 rfl) (same_xx H68 H35 (by omega) (by omega)) ?_
        clear fr a
        rintro v w156 ⟨rfl, hN157⟩ a fr
        replace hV := hV.new hN157
        replace B4 := B4.new hN157
        replace hW16 := hW16.new hN157
        replace B28 := B28.new hN157
        replace H35 := H35.new hN157
        replace V60 := V60.new hN157
        replace B45 := B45.new hN157
        replace H68 := H68.new hN157
        replace OL := OL.new hN157
        replace H91 := H91.new hN157
        replace H99 := H99.new hN157
        replace B107 := B107.new hN157
        replace V113 := V113.new hN157
        replace B120 := B120.new hN157
        replace H134 := H134.new hN157
        replace H144 := H144.new hN157
        replace hF := hF.trNew hN157
        rw [show (decide (most = most) && decide (((delL x.pick l12) : List Msg) = l12)) = decide ((delL x.pick l12) = l12) from by simp] at fr
        refine fx_val (v := .bool (decide (delL x.pick l12 = l12))) fr (fr.want rfl rfl rfl) rfl (by first | decide | simp) (x_move rfl (fr.ev rfl)) ?_
        clear fr a; intro a fr
        refine fx_val (v := .bool true) fr (fr.want rfl rfl rfl) rfl (by first | decide | simp) (x_beql Try.underlying4 rfl (fr.ev rfl) (fr.ev rfl) (by simp)) ?_
        clear fr a; intro a fr
        refine fx_val (v := .bool true) fr rfl rfl (by first | decide | simp) (x_pick_t rfl (fr.ev rfl) (fr.ev rfl)) ?_
        clear fr a; intro a fr
        refine fx_val (v := .bool true) fr rfl rfl (by first | decide | simp) (x_move rfl (fr.ev rfl)) ?_
        clear fr a; intro a fr
        refine fx_val (v := .pointer (some ⟨b32, 0, none⟩)) fr (fr.want rfl rfl rfl) rfl (by first | decide | simp) (x_move rfl (fr.ev rfl)) ?_
        clear fr a; intro a fr
        refine fx_val (v := .pointer (some ⟨b9, 0, none⟩)) fr (fr.want rfl rfl rfl) rfl (by first | decide | simp) (x_move rfl (fr.ev rfl)) ?_
        clear fr a; intro a fr
        refine fx_call fr (fr.want rfl rfl rfl) rfl (by first | decide | simp) (x_call (vs := [.pointer (some ⟨b32, 0, none⟩), .pointer (some ⟨b9, 0, none⟩)]) rfl rfl ⟨(fr.ev rfl), (fr.ev rfl), trivial⟩ Try.func27 nm27 rfl) (same_xx H35 H68 (by omega) (by omega)) ?_
        clear fr a
        rintro v w158 ⟨rfl, hN159⟩ a fr
        replace hV := hV.new hN159
        replace B4 := B4.new hN159
        replace hW16 := hW16.new hN159
        replace B28 := B28.new hN159
        replace H35 := H35.new hN159
        replace V60 := V60.new hN159
        replace B45 := B45.new hN159
        replace H68 := H68.new hN159
        replace OL := OL.new hN159
        replace H91 := H91.new hN159
        replace H99 := H99.new hN159
        replace B107 := B107.new hN159
        replace V113 := V113.new hN159
        replace B120 := B120.new hN159
        replace H134 := H134.new hN159
        replace H144 := H144.new hN159
        replace hF := hF.trNew hN159
        rw [show (decide (most = most) && decide ((l12 : List Msg) = (delL x.pick l12))) = decide ((delL x.pick l12) = l12) from by simp [eq_comm]] at fr
        refine fx_val (v := .bool (decide (delL x.pick l12 = l12))) fr (fr.want rfl rfl rfl) rfl (by first | decide | simp) (x_move rfl (fr.ev rfl)) ?_
        clear fr a; intro a fr
        refine fx_val (v := .bool true) fr (fr.want rfl rfl rfl) rfl (by first | decide | simp) (x_beql Try.underlying4 rfl (fr.ev rfl) (fr.ev rfl) (by simp)) ?_
        clear fr a; intro a fr
        refine fx_val (v := .bool true) fr rfl rfl (by first | decide | simp) (x_pick_t rfl (fr.ev rfl) (fr.ev rfl)) ?_
        clear fr a; intro a fr
        refine fx_val (v := .bool true) fr rfl rfl (by first | decide | simp) (x_move rfl (fr.ev rfl)) ?_
        clear fr a; intro a fr
        refine fx_val (v := .pointer (some ⟨b88, 0, none⟩)) fr (fr.want rfl rfl rfl) rfl (by first | decide | simp) (x_move rfl (fr.ev rfl)) ?_
        clear fr a; intro a fr
        refine fx_val (v := .pointer (some ⟨b96, 0, none⟩)) fr (fr.want rfl rfl rfl) rfl (by first | decide | simp) (x_move rfl (fr.ev rfl)) ?_
        clear fr a; intro a fr
        refine fx_call fr (fr.want rfl rfl rfl) rfl (by first | decide | simp) (x_call (vs := [.pointer (some ⟨b88, 0, none⟩), .pointer (some ⟨b96, 0, none⟩)]) rfl rfl ⟨(fr.ev rfl), (fr.ev rfl), trivial⟩ Try.func27 nm27 rfl) (same_xx H91 H99 (by omega) (by omega)) ?_
        clear fr a
        rintro v w160 ⟨rfl, hN161⟩ a fr
        replace hV := hV.new hN161
        replace B4 := B4.new hN161
        replace hW16 := hW16.new hN161
        replace B28 := B28.new hN161
        replace H35 := H35.new hN161
        replace V60 := V60.new hN161
        replace B45 := B45.new hN161
        replace H68 := H68.new hN161
        replace OL := OL.new hN161
        replace H91 := H91.new hN161
        replace H99 := H99.new hN161
        replace B107 := B107.new hN161
        replace V113 := V113.new hN161
        replace B120 := B120.new hN161
        replace H134 := H134.new hN161
        replace H144 := H144.new hN161
        replace hF := hF.trNew hN161
        rw [show (decide ((Int.tmod most 1024 + 1) = most) && decide ((([]) : List Msg) = ([]))) = decide (Int.tmod most 1024 + 1 = most) from by simp] at fr
        refine fx_val (v := .int .i64 most) fr (fr.want rfl rfl rfl) rfl (by first | decide | simp) (x_move rfl (fr.ev rfl)) ?_
        clear fr a; intro a fr
        refine fx_val (v := .int .i64 (Int.tmod most 1024)) fr (fr.want rfl rfl rfl) rfl (by first | decide | simp) (x_rem rfl (fr.ev rfl) rfl (by omega) rfl) ?_
        clear fr a; intro a fr
        refine fx_val (v := .int .i64 (Int.tmod most 1024 + 1)) fr (fr.want rfl rfl rfl) rfl (by first | decide | simp) (x_add rfl (fr.ev rfl) rfl (i64w (r := Int.tmod most 1024 + 1) (by omega) (by omega))) ?_
        clear fr a; intro a fr
        refine fx_val (v := .int .i64 most) fr (fr.want rfl rfl rfl) rfl (by first | decide | simp) (x_move rfl (fr.ev rfl)) ?_
        clear fr a; intro a fr
        refine fx_val (v := .bool (decide (Int.tmod most 1024 + 1 = most))) fr (fr.want rfl rfl rfl) rfl (by first | decide | simp) (x_eql rfl (fr.ev rfl) (fr.ev rfl) rfl) ?_
        clear fr a; intro a fr
        refine fx_val (v := .bool true) fr (fr.want rfl rfl rfl) rfl (by first | decide | simp) (x_beql Try.underlying4 rfl (fr.ev rfl) (fr.ev rfl) (by simp)) ?_
        clear fr a; intro a fr
        refine fx_val (v := .bool true) fr rfl rfl (by first | decide | simp) (x_pick_t rfl (fr.ev rfl) (fr.ev rfl)) ?_
        clear fr a; intro a fr
        refine fx_val (v := .bool true) fr rfl rfl (by first | decide | simp) (x_move rfl (fr.ev rfl)) ?_
        clear fr a; intro a fr
        refine fx_call fr (fr.want rfl rfl rfl) rfl (by first | decide | simp) (x_call (vs := []) rfl rfl trivial Try.func13 nm13 rfl) (works_c _) ?_
        clear fr a
        rintro v w162 ⟨rfl, hN163⟩ a fr
        replace hV := hV.new hN163
        replace B4 := B4.new hN163
        replace hW16 := hW16.new hN163
        replace B28 := B28.new hN163
        replace H35 := H35.new hN163
        replace V60 := V60.new hN163
        replace B45 := B45.new hN163
        replace H68 := H68.new hN163
        replace OL := OL.new hN163
        replace H91 := H91.new hN163
        replace H99 := H99.new hN163
        replace B107 := B107.new hN163
        replace V113 := V113.new hN163
        replace B120 := B120.new hN163
        replace H134 := H134.new hN163
        replace H144 := H144.new hN163
        replace hF := hF.trNew hN163
        refine fx_val (v := .bool true) fr rfl rfl (by first | decide | simp) (x_pick_t rfl (fr.ev rfl) (fr.ev rfl)) ?_
        clear fr a; intro a fr
        refine fx_val (v := .bool true) fr rfl rfl (by first | decide | simp) (x_assign rfl (fr.ev rfl)) ?_
        clear fr a; intro a fr
        refine wpList_nil ?_
        refine fx_next ?_
        refine wp_ret ?_
        refine fx_ret fr [.tmp 6] [.bool true] rfl ⟨rfl, trivial⟩ rfl ?_
        exact ⟨_, rfl, rfl, hF⟩
    · skip
      have hc57 := of_decide_eq_false hc57
      refine wp_seq ?_
      refine wp_region_lit ?_  -- region 12
      refine fx_val (v := .agg (#[.int .i64 most, .slice V13 l12.length vc14])) fr rfl rfl (by first | decide | simp) (x_loadS ag49 rfl (fr.ev rfl) rfl B28.range) ?_
      clear fr a; intro a fr
      refine fx_val (v := .pointer (some ⟨b1, 1, none⟩)) fr rfl rfl (by first | decide | simp) (x_fieldAddr fo40_1 rfl (fr.ev rfl) rfl) ?_
      clear fr a; intro a fr
      refine fx_val (v := .agg (msgE.arr x.msg)) fr rfl rfl (by first | decide | simp) (x_loadE (E := msgE) ag26 rfl rfl (fr.ev rfl) (B4.part (act_msgA _))) ?_
      clear fr a; intro a fr
      refine fx_call fr rfl rfl (by first | decide | simp) (x_call (vs := [.agg (#[.int .i64 most, .slice V13 l12.length vc14]), .agg (msgE.arr x.msg)]) rfl rfl ⟨(fr.ev rfl), (fr.ev rfl), trivial⟩ Try.func23 nm23 rfl) (rsend_c x.msg hW16 (by omega)) ?_
      clear fr a
      rintro v w168 ⟨A164, cap165, rfl, V166, mv167, hN169⟩ a fr
      have ap_A164_b1 : Apart A164 b1 := moved_apart mv167 ap_V13_b1 B4.lt
      have ap_A164_b9 : Apart A164 b9 := moved_apart mv167 ap_V13_b9 H15.ltb
      have ap2_A164_A10 : Apart2 A164 A10 := moved_apart2 mv167 ap2_A10_V13.symm fun _ hg => H15.lt hg
      have ap_A164_b25 : Apart A164 b25 := moved_apart mv167 ap_V13_b25 B28.lt
      have ap_A164_b32 : Apart A164 b32 := moved_apart mv167 ap_V13_b32 H35.ltb
      have ap2_A164_A33 : Apart2 A164 A33 := moved_apart2 mv167 ap2_V13_A33 fun _ hg => H35.lt hg
      have ap_A164_b42 : Apart A164 b42 := moved_apart mv167 ap_V13_b42 B45.lt
      have ap_A164_b49 : Apart A164 b49 := moved_apart mv167 ap_V13_b49 H52.ltb
      have ap2_A164_A50 : Apart2 A164 A50 := moved_apart2 mv167 ap2_V13_A50 fun _ hg => H52.lt hg
      have gA_A164 := gA_moved hF mv167 gA_V13
      replace hV := hV.new hN169
      replace B4 := B4.new hN169
      replace H15 := H15.new hN169
      replace hW16 := hW16.new hN169
      replace B28 := B28.new hN169
      replace H35 := H35.new hN169
      replace B45 := B45.new hN169
      replace H52 := H52.new hN169
      replace hF := hF.trNew hN169
      refine fx_val (v := .tuple #[.agg (#[.int .i64 most, .slice A164 ((sendL most l12 x.msg).length) cap165]), .int .i64 (sendE most l12 x.msg)]) fr rfl rfl (by first | decide | simp) (x_move rfl (fr.ev rfl)) ?_
      clear fr a; intro a fr
      refine fx_val (v := .agg (#[.int .i64 most, .slice A164 ((sendL most l12 x.msg).length) cap165])) fr rfl rfl (by first | decide | simp) (x_extract rfl (fr.ev rfl) rfl) ?_
      clear fr a; intro a fr
      refine fx_val (v := .int .i64 (sendE most l12 x.msg)) fr rfl rfl (by first | decide | simp) (x_extract rfl (fr.ev rfl) rfl) ?_
      clear fr a; intro a fr
      refine fx_storeS sz49 rfl rfl rfl (fr.ev rfl) (fr.ev rfl) (by simp [Value.oneCell']) B45 rfl rfl fun w170 hO171 hBq => ?_
      replace hV := hV.only hO171 (Apart.ne1 ap_P_b42)
      replace B4 := B4.only hO171 (by first | exact ne_b1_b42 | exact ne_b42_b1.symm | (show ¬ b1 = b42; omega))
      replace H15 := H15.only hO171 (by first | exact ne_b9_b42 | exact ne_b42_b9.symm | (show ¬ b9 = b42; omega)) (Apart.ne1 ap_A10_b42)
      replace hW16 := hW16.only hO171 (Apart.ne1 ap_V13_b42)
      replace B28 := B28.only hO171 (by first | exact ne_b25_b42 | exact ne_b42_b25.symm | (show ¬ b25 = b42; omega))
      replace H35 := H35.only hO171 (by first | exact ne_b32_b42 | exact ne_b42_b32.symm | (show ¬ b32 = b42; omega)) (Apart.ne1 ap_A33_b42)
      replace H52 := H52.only hO171 (by first | exact ne_b49_b42 | exact ne_b42_b49.symm | (show ¬ b49 = b42; omega)) (Apart.ne1 ap_A50_b42)
      replace V166 := V166.only hO171 (Apart.ne1 ap_A164_b42)
      replace hF := hF.loc hO171 (.inr g_b42)
      replace B45 := hBq
      clear hBq
      refine wpList_nil ?_
      refine fx_next ?_
      refine wp_region_lit ?_  -- region 13
      refine fx_val (v := .pointer (some ⟨b9, 0, none⟩)) fr rfl rfl (by first | decide | simp) (x_move rfl (fr.ev rfl)) ?_
      clear fr a; intro a fr
      refine fx_val (v := .pointer (some ⟨b1, 1, none⟩)) fr rfl rfl (by first | decide | simp) (x_fieldAddr fo40_1 rfl (fr.ev rfl) rfl) ?_
      clear fr a; intro a fr
      refine fx_val (v := .agg (msgE.arr x.msg)) fr rfl rfl (by first | decide | simp) (x_loadE (E := msgE) ag26 rfl rfl (fr.ev rfl) (B4.part (act_msgA _))) ?_
      clear fr a; intro a fr
      refine fx_call fr rfl rfl (by first | decide | simp) (x_call (vs := [.pointer (some ⟨b9, 0, none⟩), .agg (msgE.arr x.msg)]) rfl rfl ⟨(fr.ev rfl), (fr.ev rfl), trivial⟩ Try.func15 nm15 rfl) (send_c x.msg H15 (by omega) (by omega)) ?_
      clear fr a
      rintro v w176 ⟨rfl, A172, cap173, H174, hN177, mv175⟩ a fr
      have ap2_A172_P : Apart2 A172 P := moved_apart2 mv175 ap2_P_A10.symm fun _ hg => hV.lt hg
      have ap_A172_b1 : Apart A172 b1 := moved_apart mv175 ap_A10_b1 B4.lt
      have ap2_A172_V13 : Apart2 A172 V13 := moved_apart2 mv175 ap2_A10_V13 fun _ hg => hW16.lt hg
      have ap_A172_b25 : Apart A172 b25 := moved_apart mv175 ap_A10_b25 B28.lt
      have ap_A172_b32 : Apart A172 b32 := moved_apart mv175 ap_A10_b32 H35.ltb
      have ap2_A172_A33 : Apart2 A172 A33 := moved_apart2 mv175 ap2_A10_A33 fun _ hg => H35.lt hg
      have ap_A172_b49 : Apart A172 b49 := moved_apart mv175 ap_A10_b49 H52.ltb
      have ap2_A172_A50 : Apart2 A172 A50 := moved_apart2 mv175 ap2_A10_A50 fun _ hg => H52.lt hg
      have ap2_A172_A164 : Apart2 A172 A164 := moved_apart2 mv175 ap2_A164_A10.symm fun _ hg => V166.lt hg
      have ap_A172_b42 : Apart A172 b42 := moved_apart mv175 ap_A10_b42 B45.lt
      have gA_A172 := gA_moved hF mv175 gA_A10
      replace hV := hV.only hN177 (fun g hg h => h.elim ((Apart.ne1 ap_P_b9) g hg) ((fun g h1 h2 => ap2_P_A10 g h1 h2) g hg))
      replace B4 := B4.only hN177 (fun h => h.elim (by first | exact ne_b1_b9 | exact ne_b9_b1.symm | (show ¬ b1 = b9; omega)) ap_A10_b1)
      replace hW16 := hW16.only hN177 (fun g hg h => h.elim ((Apart.ne1 ap_V13_b9) g hg) ((fun g h1 h2 => ap2_A10_V13.symm g h1 h2) g hg))
      replace B28 := B28.only hN177 (fun h => h.elim (by first | exact ne_b25_b9 | exact ne_b9_b25.symm | (show ¬ b25 = b9; omega)) ap_A10_b25)
      replace H35 := H35.only hN177 (fun h => h.elim (by first | exact ne_b32_b9 | exact ne_b9_b32.symm | (show ¬ b32 = b9; omega)) ap_A10_b32) (fun g hg h => h.elim ((Apart.ne1 ap_A33_b9) g hg) ((fun g h1 h2 => ap2_A10_A33.symm g h1 h2) g hg))
      replace H52 := H52.only hN177 (fun h => h.elim (by first | exact ne_b49_b9 | exact ne_b9_b49.symm | (show ¬ b49 = b9; omega)) ap_A10_b49) (fun g hg h => h.elim ((Apart.ne1 ap_A50_b9) g hg) ((fun g h1 h2 => ap2_A10_A50.symm g h1 h2) g hg))
      replace V166 := V166.only hN177 (fun g hg h => h.elim ((Apart.ne1 ap_A164_b9) g hg) ((fun g h1 h2 => ap2_A164_A10 g h1 h2) g hg))
      replace B45 := B45.only hN177 (fun h => h.elim (by first | exact ne_b42_b9 | exact ne_b9_b42.symm | (show ¬ b42 = b9; omega)) ap_A10_b42)
      replace hF := hF.loc2 hN177 (.inr g_b9) gA_A10
      clear H15
      refine wpList_nil ?_
      refine fx_next ?_
      refine wp_seq ?_
      refine wp_region_lit ?_  -- region 14
      refine fx_val (v := .pointer (some ⟨b42, 1, none⟩)) fr rfl rfl (by first | decide | simp) (x_fieldAddr fo49_1 rfl (fr.ev rfl) rfl) ?_
      clear fr a; intro a fr
      refine fx_val (v := .slice A164 ((sendL most l12 x.msg).length) cap165) fr rfl rfl (by first | decide | simp) (x_load1 pl38 rfl (fr.ev rfl) (B45.cell 1 rfl)) ?_
      clear fr a; intro a fr
      refine fx_val (v := .pointer (some ⟨b25, 1, none⟩)) fr rfl rfl (by first | decide | simp) (x_fieldAddr fo49_1 rfl (fr.ev rfl) rfl) ?_
      clear fr a; intro a fr
      refine fx_val (v := .slice V13 l12.length vc14) fr rfl rfl (by first | decide | simp) (x_load1 pl38 rfl (fr.ev rfl) (B28.cell 1 rfl)) ?_
      clear fr a; intro a fr
      refine fx_call fr rfl rfl (by first | decide | simp) (x_call (vs := [.slice A164 ((sendL most l12 x.msg).length) cap165, .slice V13 l12.length vc14]) rfl rfl ⟨(fr.ev rfl), (fr.ev rfl), trivial⟩ Try.func18 nm18 rfl) (same_c (V166) (hW16)) ?_
      clear fr a
      rintro v w178 ⟨rfl, hN179⟩ a fr
      replace hV := hV.new hN179
      replace B4 := B4.new hN179
      replace hW16 := hW16.new hN179
      replace B28 := B28.new hN179
      replace H35 := H35.new hN179
      replace H52 := H52.new hN179
      replace V166 := V166.new hN179
      replace B45 := B45.new hN179
      replace H174 := H174.new hN179
      replace hF := hF.trNew hN179
      refine fx_val (v := .bool (decide (sendL most l12 x.msg = l12))) fr rfl rfl (by first | decide | simp) (x_assign rfl (fr.ev rfl)) ?_
      clear fr a; intro a fr
      refine wpList_nil ?_
      refine fx_next ?_
      refine wp_seq ?_
      refine wp_region_lit ?_  -- region 15
      refine fx_val (v := .pointer (some ⟨b32, 0, none⟩)) fr rfl rfl (by first | decide | simp) (x_move rfl (fr.ev rfl)) ?_
      clear fr a; intro a fr
      refine fx_call fr rfl rfl (by first | decide | simp) (x_call (vs := [.pointer (some ⟨b32, 0, none⟩)]) rfl rfl ⟨(fr.ev rfl), trivial⟩ Try.func17 nm17 rfl) (ready_c H35 (by omega) (by omega)) ?_
      clear fr a
      rintro v w184 ⟨A180, cap181, rfl, O182, hA183, hN185⟩ a fr
      have ap2_P_A180 : Apart2 P A180 := (new_apart2 hA183 fun _ hg => hV.lt hg).symm
      have ap_A180_b1 : Apart A180 b1 := new_apart hA183 B4.lt
      have ap2_V13_A180 : Apart2 V13 A180 := (new_apart2 hA183 fun _ hg => hW16.lt hg).symm
      have ap_A180_b25 : Apart A180 b25 := new_apart hA183 B28.lt
      have ap_A180_b32 : Apart A180 b32 := new_apart hA183 H35.ltb
      have ap2_A33_A180 : Apart2 A33 A180 := (new_apart2 hA183 fun _ hg => H35.lt hg).symm
      have ap_A180_b49 : Apart A180 b49 := new_apart hA183 H52.ltb
      have ap2_A50_A180 : Apart2 A50 A180 := (new_apart2 hA183 fun _ hg => H52.lt hg).symm
      have ap2_A164_A180 : Apart2 A164 A180 := (new_apart2 hA183 fun _ hg => V166.lt hg).symm
      have ap_A180_b42 : Apart A180 b42 := new_apart hA183 B45.lt
      have ap_A180_b9 : Apart A180 b9 := new_apart hA183 H174.ltb
      have ap2_A172_A180 : Apart2 A172 A180 := (new_apart2 hA183 fun _ hg => H174.lt hg).symm
      have gA_A180 := gA_new hF hA183
      replace hV := hV.new hN185
      replace B4 := B4.new hN185
      replace hW16 := hW16.new hN185
      replace B28 := B28.new hN185
      replace H35 := H35.new hN185
      replace H52 := H52.new hN185
      replace V166 := V166.new hN185
      replace B45 := B45.new hN185
      replace H174 := H174.new hN185
      replace hF := hF.trNew hN185
      refine fx_val (v := .slice A180 l12.length cap181) fr rfl rfl (by first | decide | simp) (x_assign rfl (fr.ev rfl)) ?_
      clear fr a; intro a fr
      refine wpList_nil ?_
      refine fx_next ?_
      refine wp_seq ?_
      refine wp_seq ?_
      refine wp_region_lit ?_  -- region 16
      refine fx_val (v := .int .i64 0) fr rfl rfl (by first | decide | simp) (x_assign rfl rfl) ?_
      clear fr a; intro a fr
      refine wpList_nil ?_
      refine fx_next ?_
      refine wp_block ?_
      refine fx_loop (fun nM a wL => ∃ i : Nat, ∃ ll : List Msg, nM = l12.length - i ∧ Fr (188, []) [(0, .int .i64 most), (1, .slice P la.length cp), (2, .agg (actE.arr x)), (5, .pointer (some ⟨b1, 0, none⟩)), (6, .bool false), (24, .int .i64 most), (25, .bool (decide (most < 1))), (26, .bool (decide (most < 1))), (27, onlyIf (!(decide (most < 1))) (.int .i64 most)), (28, onlyIf (!(decide (most < 1))) (.bool (decide (1024 < most)))), (29, .bool ((decide (most < 1)) || (decide (1024 < most)))), (30, .bool ((decide (most < 1)) || (decide (1024 < most)))), (31, onlyIf (!((decide (most < 1)) || (decide (1024 < most)))) (.slice P la.length cp)), (32, onlyIf (!((decide (most < 1)) || (decide (1024 < most)))) (.int .i64 ((la.length : Nat) : Int))), (33, onlyIf (!((decide (most < 1)) || (decide (1024 < most)))) (.bool (decide (100 < ((la.length : Nat) : Int))))), (34, .bool (((decide (most < 1)) || (decide (1024 < most))) || (decide (100 < ((la.length : Nat) : Int))))), (37, .int .i64 most), (38, .slice P la.length cp), (39, .tuple #[.pointer (some ⟨b9, 0, none⟩), .agg (#[.int .i64 most, .slice V13 l12.length vc14]), .bool true]), (36, .tuple #[.pointer (some ⟨b9, 0, none⟩), .agg (#[.int .i64 most, .slice V13 l12.length vc14]), .bool true]), (40, .pointer (some ⟨b9, 0, none⟩)), (41, .agg (#[.int .i64 most, .slice V13 l12.length vc14])), (42, .bool true), (8, .pointer (some ⟨b25, 0, none⟩)), (7, .pointer (some ⟨b9, 0, none⟩)), (9, .bool true), (43, .pointer (some ⟨b9, 0, none⟩)), (44, .pointer (some ⟨b32, 0, none⟩)), (10, .pointer (some ⟨b32, 0, none⟩)), (45, .bool true), (46, .bool false), (47, .bool false), (48, .pointer (some ⟨b9, 0, none⟩)), (49, .pointer (some ⟨b32, 0, none⟩)), (50, .bool true), (51, .bool false), (52, .bool false), (53, .agg (#[.int .i64 most, .slice V13 l12.length vc14])), (11, .pointer (some ⟨b42, 0, none⟩)), (54, .pointer (some ⟨b9, 0, none⟩)), (55, .pointer (some ⟨b49, 0, none⟩)), (12, .pointer (some ⟨b49, 0, none⟩)), (56, .pointer (some ⟨b1, 0, none⟩)), (57, .int .i64 x.what), (58, .bool (decide (x.what ≠ 0))), (72, .agg (#[.int .i64 most, .slice V13 l12.length vc14])), (73, .pointer (some ⟨b1, 1, none⟩)), (74, .agg (msgE.arr x.msg)), (75, .tuple #[.agg (#[.int .i64 most, .slice A164 ((sendL most l12 x.msg).length) cap165]), .int .i64 (sendE most l12 x.msg)]), (71, .tuple #[.agg (#[.int .i64 most, .slice A164 ((sendL most l12 x.msg).length) cap165]), .int .i64 (sendE most l12 x.msg)]), (76, .agg (#[.int .i64 most, .slice A164 ((sendL most l12 x.msg).length) cap165])), (77, .int .i64 (sendE most l12 x.msg)), (78, .pointer (some ⟨b9, 0, none⟩)), (79, .pointer (some ⟨b1, 1, none⟩)), (80, .agg (msgE.arr x.msg)), (81, .int .i64 (sendE most l12 x.msg)), (82, .pointer (some ⟨b42, 1, none⟩)), (83, .slice A164 ((sendL most l12 x.msg).length) cap165), (84, .pointer (some ⟨b25, 1, none⟩)), (85, .slice V13 l12.length vc14), (86, .bool (decide (sendL most l12 x.msg = l12))), (13, .bool (decide (sendL most l12 x.msg = l12))), (87, .pointer (some ⟨b32, 0, none⟩)), (88, .slice A180 l12.length cap181), (14, .slice A180 l12.length cap181), (15, .int .i64 ((i : Nat) : Int))] a ∧ Only (fun _ => False) w wL ∧ View actE wL P cp la ∧ Blk wL b1 40 (actE.arr x) ∧ View msgE wL V13 vc14 l12 ∧ Blk wL b25 49 (#[.int .i64 most, .slice V13 l12.length vc14]) ∧ NetAt wL b32 A33 cap34 most l12 ∧ NetAt wL b49 A50 cap51 most l12 ∧ View msgE wL A164 cap165 (sendL most l12 x.msg) ∧ Blk wL b42 49 (#[.int .i64 most, .slice A164 ((sendL most l12 x.msg).length) cap165]) ∧ NetAt wL b9 A172 cap173 most (sendL most l12 x.msg) ∧ Own msgE wL A180 cap181 ll ∧ i ≤ l12.length ∧ ll.length = l12.length) (n0 := _) ⟨0, l12, rfl, fr.sub ⟨rfl, rfl, rfl, rfl, rfl, rfl, rfl, rfl, rfl, rfl, rfl, rfl, rfl, rfl, rfl, rfl, rfl, rfl, rfl, rfl, rfl, rfl, rfl, rfl, rfl, rfl, rfl, rfl, rfl, rfl, rfl, rfl, rfl, rfl, rfl, rfl, rfl, rfl, rfl, rfl, rfl, rfl, rfl, rfl, rfl, rfl, rfl, rfl, rfl, rfl, rfl, rfl, rfl, rfl, rfl, rfl, rfl, rfl, rfl, rfl, rfl, rfl, rfl, rfl, rfl, rfl, trivial⟩, hF, hV, B4, hW16, B28, H35, H52, V166, B45, H174, O182, by omega, rfl⟩ ?_
      rintro n187 a w186 ⟨i, ll, rfl, fr, hF, hV, B4, hW16, B28, H35, H52, V166, B45, H174, OL, hi, hll⟩
      refine wp_seq ?_
      refine wp_seq ?_
      refine wp_region_lit ?_  -- region 17
      refine fx_val (v := .int .i64 ((i : Nat) : Int)) fr rfl rfl (by first | decide | simp) (x_move rfl (fr.ev rfl)) ?_
      clear fr a; intro a fr
      refine fx_val (v := .slice A180 l12.length cap181) fr rfl rfl (by first | decide | simp) (x_move rfl (fr.ev rfl)) ?_
      clear fr a; intro a fr
      refine fx_val (v := .int .i64 ((l12.length : Nat) : Int)) fr rfl rfl (by first | decide | simp) (x_len Try.underlying38 rfl (fr.ev rfl)) ?_
      clear fr a; intro a fr
      refine fx_val (v := .bool (decide (((i : Nat) : Int) < ((l12.length : Nat) : Int)))) fr rfl rfl (by first | decide | simp) (x_lss rfl (fr.ev rfl) (fr.ev rfl) rfl) ?_
      clear fr a; intro a fr
      refine wpList_nil ?_
      refine fx_next ?_
      refine fx_cond fr rfl (fun hc188 => ?_) (fun hc188 => ?_)
      · skip
        have hc188 := of_decide_eq_true hc188
        refine wp_skip ?_
        refine fx_next ?_
        refine wp_seq ?_
        refine wp_block ?_
        refine wp_region_lit ?_  -- region 19
        refine fx_val (v := .slice A180 l12.length cap181) fr rfl rfl (by first | decide | simp) (x_move rfl (fr.ev rfl)) ?_
        clear fr a; intro a fr
        refine fx_val (v := .int .i64 ((i : Nat) : Int)) fr rfl rfl (by first | decide | simp) (x_move rfl (fr.ev rfl)) ?_
        clear fr a; intro a fr
        refine fx_val (v := .slice A180 l12.length cap181) fr rfl rfl (by first | decide | simp) (x_move rfl (fr.ev rfl)) ?_
        clear fr a; intro a fr
        refine fx_val (v := .int .i64 ((i : Nat) : Int)) fr rfl rfl (by first | decide | simp) (x_move rfl (fr.ev rfl)) ?_
        clear fr a; intro a fr
        obtain ⟨g189, o190, hA191⟩ := (OL.view).some_ (by omega)
        refine fx_val (v := .pointer (some ⟨g189, o190 + i * 20, none⟩)) fr rfl rfl (by first | decide | simp) (x_indexV Try.underlying38 sz26 rfl (fr.ev rfl) hA191 (fr.ev rfl) (by omega) rfl) ?_
        clear fr a; intro a fr
        refine fx_val (v := .pointer (some ⟨g189, o190 + i * 20 + 3, none⟩)) fr rfl rfl (by first | decide | simp) (x_fieldAddr fo26_3 rfl (fr.ev rfl) rfl) ?_
        clear fr a; intro a fr
        refine fx_val (v := .int .u32 ((ll.getD i msg0).line)) fr rfl rfl (by first | decide | simp) (x_load1 pl23 rfl (fr.ev rfl) (range_cell ((OL.view).elem hA191 i msg0 (by omega)) 3 rfl rfl)) ?_
        clear fr a; intro a fr
        refine fx_val (v := .int .u32 (IntKind.u32.wrap ((ll.getD i msg0).line + 1))) fr rfl rfl (by first | decide | simp) (x_add rfl (fr.ev rfl) rfl rfl) ?_
        clear fr a; intro a fr
        refine fx_val (v := .pointer (some ⟨g189, o190 + i * 20, none⟩)) fr rfl rfl (by first | decide | simp) (x_indexV Try.underlying38 sz26 rfl (fr.ev rfl) hA191 (fr.ev rfl) (by omega) rfl) ?_
        clear fr a; intro a fr
        refine fx_val (v := .pointer (some ⟨g189, o190 + i * 20 + 3, none⟩)) fr rfl rfl (by first | decide | simp) (x_fieldAddr fo26_3 rfl (fr.ev rfl) rfl) ?_
        clear fr a; intro a fr
        refine fx_storeEl (E := msgE) (d := msg0) (q := 3) (x' := { (ll.getD i msg0) with line := IntKind.u32.wrap ((ll.getD i msg0).line + 1) }) sz23 rfl rfl rfl hA191 OL (by omega) (by decide) (fr.ev rfl) rfl (fr.ev rfl) rfl rfl fun w192 hO193 hBq => ?_
        replace hV := hV.only hO193 (fun g h1 h2 => ap2_P_A180 g h1 h2)
        replace B4 := B4.only hO193 ap_A180_b1
        replace hW16 := hW16.only hO193 (fun g h1 h2 => ap2_V13_A180 g h1 h2)
        replace B28 := B28.only hO193 ap_A180_b25
        replace H35 := H35.only hO193 ap_A180_b32 (fun g h1 h2 => ap2_A33_A180 g h1 h2)
        replace H52 := H52.only hO193 ap_A180_b49 (fun g h1 h2 => ap2_A50_A180 g h1 h2)
        replace V166 := V166.only hO193 (fun g h1 h2 => ap2_A164_A180 g h1 h2)
        replace B45 := B45.only hO193 ap_A180_b42
        replace H174 := H174.only hO193 ap_A180_b9 (fun g h1 h2 => ap2_A172_A180 g h1 h2)
        replace hF := hF.locA hO193 gA_A180
        replace OL := hBq
        clear hBq
        refine wpList_nil ?_
        refine fx_blk ?_
        refine fx_next ?_
        refine wp_region_lit ?_  -- region 18
        refine fx_val (v := .int .i64 ((i : Nat) : Int)) fr rfl rfl (by first | decide | simp) (x_move rfl (fr.ev rfl)) ?_
        clear fr a; intro a fr
        refine fx_val (v := .int .i64 ((i + 1 : Nat) : Int)) fr rfl rfl (by first | decide | simp) (x_add rfl (fr.ev rfl) rfl (i64w (r := ((i + 1 : Nat) : Int)) (by omega) (by omega))) ?_
        clear fr a; intro a fr
        refine fx_val (v := .int .i64 ((i + 1 : Nat) : Int)) fr rfl rfl (by first | decide | simp) (x_assign rfl (fr.ev rfl)) ?_
        clear fr a; intro a fr
        refine wpList_nil ?_
        refine fx_next ?_
        exact ⟨_, by omega, (i + 1), (ll.set i { (ll.getD i msg0) with line := IntKind.u32.wrap ((ll.getD i msg0).line + 1) }), rfl, fr.sub ⟨rfl, rfl, rfl, rfl, rfl, rfl, rfl, rfl, rfl, rfl, rfl, rfl, rfl, rfl, rfl, rfl, rfl, rfl, rfl, rfl, rfl, rfl, rfl, rfl, rfl, rfl, rfl, rfl, rfl, rfl, rfl, rfl, rfl, rfl, rfl, rfl, rfl, rfl, rfl, rfl, rfl, rfl, rfl, rfl, rfl, rfl, rfl, rfl, rfl, rfl, rfl, rfl, rfl, rfl, rfl, rfl, rfl, rfl, rfl, rfl, rfl, rfl, rfl, rfl, rfl, rfl, trivial⟩, hF, hV, B4, hW16, B28, H35, H52, V166, B45, H174, OL, by omega, (by rw [List.length_set]; exact hll)⟩
      · skip
        have hc188 := of_decide_eq_false hc188
        refine wp_exit ?_
        refine fx_xt ?_
        refine fx_xt ?_
        refine fx_xx ?_
        refine fx_next ?_
        refine wp_seq ?_
        have hb : 0 ≤ Int.tmod most 1024 ∧ Int.tmod most 1024 < 1024 := ⟨Int.tmod_nonneg _ (by omega), Int.tmod_lt_of_pos _ (by omega)⟩
        refine wp_region_lit ?_  -- region 20
        refine fx_val (v := .int .i64 most) fr rfl rfl (by first | decide | simp) (x_move rfl (fr.ev rfl)) ?_
        clear fr a; intro a fr
        refine fx_val (v := .int .i64 (Int.tmod most 1024)) fr rfl rfl (by first | decide | simp) (x_rem rfl (fr.ev rfl) rfl (by omega) rfl) ?_
        clear fr a; intro a fr
        refine fx_val (v := .int .i64 (Int.tmod most 1024 + 1)) fr rfl rfl (by first | decide | simp) (x_add rfl (fr.ev rfl) rfl (i64w (r := Int.tmod most 1024 + 1) (by omega) (by omega))) ?_
        clear fr a; intro a fr
        refine fx_call fr rfl rfl (by first | decide | simp) (x_call (vs := [.int .i64 (Int.tmod most 1024 + 1)]) rfl rfl ⟨(fr.ev rfl), trivial⟩ Try.func14 nm14 rfl) (new_yes (Int.tmod most 1024 + 1) _ (by omega) (by omega)) ?_
        clear fr a
        rintro v w200 ⟨b194, A195, cap196, rfl, H197, hb198, hA199, hN201⟩ a fr
        have ap_P_b194 : Apart P b194 := hV.apart hb198
        have ne_b1_b194 : NE b1 b194 := NE.mk (Nat.lt_of_lt_of_le B4.lt hb198)
        have ap_V13_b194 : Apart V13 b194 := hW16.apart hb198
        have ne_b25_b194 : NE b25 b194 := NE.mk (Nat.lt_of_lt_of_le B28.lt hb198)
        have ne_b32_b194 : NE b32 b194 := NE.mk (Nat.lt_of_lt_of_le H35.ltb hb198)
        have ap_A33_b194 : Apart A33 b194 := H35.apart hb198
        have ne_b49_b194 : NE b49 b194 := NE.mk (Nat.lt_of_lt_of_le H52.ltb hb198)
        have ap_A50_b194 : Apart A50 b194 := H52.apart hb198
        have ap_A164_b194 : Apart A164 b194 := V166.apart hb198
        have ne_b42_b194 : NE b42 b194 := NE.mk (Nat.lt_of_lt_of_le B45.lt hb198)
        have ne_b9_b194 : NE b9 b194 := NE.mk (Nat.lt_of_lt_of_le H174.ltb hb198)
        have ap_A172_b194 : Apart A172 b194 := H174.apart hb198
        have ap_A180_b194 : Apart A180 b194 := OL.apart hb198
        have g_b194 := Nat.le_trans hF.size hb198
        have ap2_P_A195 : Apart2 P A195 := (new_apart2 hA199 fun _ hg => hV.lt hg).symm
        have ap_A195_b1 : Apart A195 b1 := new_apart hA199 B4.lt
        have ap2_V13_A195 : Apart2 V13 A195 := (new_apart2 hA199 fun _ hg => hW16.lt hg).symm
        have ap_A195_b25 : Apart A195 b25 := new_apart hA199 B28.lt
        have ap_A195_b32 : Apart A195 b32 := new_apart hA199 H35.ltb
        have ap2_A33_A195 : Apart2 A33 A195 := (new_apart2 hA199 fun _ hg => H35.lt hg).symm
        have ap_A195_b49 : Apart A195 b49 := new_apart hA199 H52.ltb
        have ap2_A50_A195 : Apart2 A50 A195 := (new_apart2 hA199 fun _ hg => H52.lt hg).symm
        have ap2_A164_A195 : Apart2 A164 A195 := (new_apart2 hA199 fun _ hg => V166.lt hg).symm
        have ap_A195_b42 : Apart A195 b42 := new_apart hA199 B45.lt
        have ap_A195_b9 : Apart A195 b9 := new_apart hA199 H174.ltb
        have ap2_A172_A195 : Apart2 A172 A195 := (new_apart2 hA199 fun _ hg => H174.lt hg).symm
        have ap2_A180_A195 : Apart2 A180 A195 := (new_apart2 hA199 fun _ hg => OL.lt hg).symm
        have gA_A195 := gA_new hF hA199
        replace hV := hV.new hN201
        replace B4 := B4.new hN201
        replace hW16 := hW16.new hN201
        replace B28 := B28.new hN201
        replace H35 := H35.new hN201
        replace H52 := H52.new hN201
        replace V166 := V166.new hN201
        replace B45 := B45.new hN201
        replace H174 := H174.new hN201
        replace OL := OL.new hN201
        replace hF := hF.trNew hN201
        refine fx_val (v := .tuple #[.pointer (some ⟨b194, 0, none⟩), .int .i64 0]) fr rfl rfl (by first | decide | simp) (x_move rfl (fr.ev rfl)) ?_
        clear fr a; intro a fr
        refine fx_val (v := .pointer (some ⟨b194, 0, none⟩)) fr rfl rfl (by first | decide | simp) (x_extract rfl (fr.ev rfl) rfl) ?_
        clear fr a; intro a fr
        refine fx_val (v := .int .i64 0) fr rfl rfl (by first | decide | simp) (x_extract rfl (fr.ev rfl) rfl) ?_
        clear fr a; intro a fr
        refine fx_val (v := .pointer (some ⟨b194, 0, none⟩)) fr rfl rfl (by first | decide | simp) (x_assign rfl (fr.ev rfl)) ?_
        clear fr a; intro a fr
        refine fx_val (v := .int .i64 0) fr rfl rfl (by first | decide | simp) (x_assign rfl (fr.ev rfl)) ?_
        clear fr a; intro a fr
        refine wpList_nil ?_
        refine fx_next ?_
        refine wp_seq ?_
        refine wp_region_lit ?_  -- region 21
        refine fx_val (v := .int .i64 most) fr rfl rfl (by first | decide | simp) (x_move rfl (fr.ev rfl)) ?_
        clear fr a; intro a fr
        refine fx_call fr rfl rfl (by first | decide | simp) (x_call (vs := [.int .i64 most]) rfl rfl ⟨(fr.ev rfl), trivial⟩ Try.func14 nm14 rfl) (new_yes most _ (by omega) (by omega)) ?_
        clear fr a
        rintro v w208 ⟨b202, A203, cap204, rfl, H205, hb206, hA207, hN209⟩ a fr
        have ap_P_b202 : Apart P b202 := hV.apart hb206
        have ne_b1_b202 : NE b1 b202 := NE.mk (Nat.lt_of_lt_of_le B4.lt hb206)
        have ap_V13_b202 : Apart V13 b202 := hW16.apart hb206
        have ne_b25_b202 : NE b25 b202 := NE.mk (Nat.lt_of_lt_of_le B28.lt hb206)
        have ne_b32_b202 : NE b32 b202 := NE.mk (Nat.lt_of_lt_of_le H35.ltb hb206)
        have ap_A33_b202 : Apart A33 b202 := H35.apart hb206
        have ne_b49_b202 : NE b49 b202 := NE.mk (Nat.lt_of_lt_of_le H52.ltb hb206)
        have ap_A50_b202 : Apart A50 b202 := H52.apart hb206
        have ap_A164_b202 : Apart A164 b202 := V166.apart hb206
        have ne_b42_b202 : NE b42 b202 := NE.mk (Nat.lt_of_lt_of_le B45.lt hb206)
        have ne_b9_b202 : NE b9 b202 := NE.mk (Nat.lt_of_lt_of_le H174.ltb hb206)
        have ap_A172_b202 : Apart A172 b202 := H174.apart hb206
        have ap_A180_b202 : Apart A180 b202 := OL.apart hb206
        have ne_b194_b202 : NE b194 b202 := NE.mk (Nat.lt_of_lt_of_le H197.ltb hb206)
        have ap_A195_b202 : Apart A195 b202 := H197.apart hb206
        have g_b202 := Nat.le_trans hF.size hb206
        have ap2_P_A203 : Apart2 P A203 := (new_apart2 hA207 fun _ hg => hV.lt hg).symm
        have ap_A203_b1 : Apart A203 b1 := new_apart hA207 B4.lt
        have ap2_V13_A203 : Apart2 V13 A203 := (new_apart2 hA207 fun _ hg => hW16.lt hg).symm
        have ap_A203_b25 : Apart A203 b25 := new_apart hA207 B28.lt
        have ap_A203_b32 : Apart A203 b32 := new_apart hA207 H35.ltb
        have ap2_A33_A203 : Apart2 A33 A203 := (new_apart2 hA207 fun _ hg => H35.lt hg).symm
        have ap_A203_b49 : Apart A203 b49 := new_apart hA207 H52.ltb
        have ap2_A50_A203 : Apart2 A50 A203 := (new_apart2 hA207 fun _ hg => H52.lt hg).symm
        have ap2_A164_A203 : Apart2 A164 A203 := (new_apart2 hA207 fun _ hg => V166.lt hg).symm
        have ap_A203_b42 : Apart A203 b42 := new_apart hA207 B45.lt
        have ap_A203_b9 : Apart A203 b9 := new_apart hA207 H174.ltb
        have ap2_A172_A203 : Apart2 A172 A203 := (new_apart2 hA207 fun _ hg => H174.lt hg).symm
        have ap2_A180_A203 : Apart2 A180 A203 := (new_apart2 hA207 fun _ hg => OL.lt hg).symm
        have ap_A203_b194 : Apart A203 b194 := new_apart hA207 H197.ltb
        have ap2_A195_A203 : Apart2 A195 A203 := (new_apart2 hA207 fun _ hg => H197.lt hg).symm
        have gA_A203 := gA_new hF hA207
        replace hV := hV.new hN209
        replace B4 := B4.new hN209
        replace hW16 := hW16.new hN209
        replace B28 := B28.new hN209
        replace H35 := H35.new hN209
        replace H52 := H52.new hN209
        replace V166 := V166.new hN209
        replace B45 := B45.new hN209
        replace H174 := H174.new hN209
        replace OL := OL.new hN209
        replace H197 := H197.new hN209
        replace hF := hF.trNew hN209
        refine fx_val (v := .tuple #[.pointer (some ⟨b202, 0, none⟩), .int .i64 0]) fr rfl rfl (by first | decide | simp) (x_move rfl (fr.ev rfl)) ?_
        clear fr a; intro a fr
        refine fx_val (v := .pointer (some ⟨b202, 0, none⟩)) fr rfl rfl (by first | decide | simp) (x_extract rfl (fr.ev rfl) rfl) ?_
        clear fr a; intro a fr
        refine fx_val (v := .int .i64 0) fr rfl rfl (by first | decide | simp) (x_extract rfl (fr.ev rfl) rfl) ?_
        clear fr a; intro a fr
        refine fx_val (v := .pointer (some ⟨b202, 0, none⟩)) fr rfl rfl (by first | decide | simp) (x_assign rfl (fr.ev rfl)) ?_
        clear fr a; intro a fr
        refine fx_val (v := .int .i64 0) fr rfl rfl (by first | decide | simp) (x_assign rfl (fr.ev rfl)) ?_
        clear fr a; intro a fr
        refine wpList_nil ?_
        refine fx_next ?_
        refine wp_seq ?_
        refine wp_region_lit ?_  -- region 22
        refine fx_val (v := .agg (msgE.arr (⟨13, 2, 4, 9, bs0⟩))) fr rfl rfl (by first | decide | simp) (x_build (cells := msgE.arr (⟨13, 2, 4, 9, bs0⟩)) rfl (by kernel_rfl)) ?_
        clear fr a; intro a fr
        refine fx_new fr rfl rfl (by first | decide | simp) (x_alloc (z := .agg (#[.int .i64 0, .int .i64 0, .int .i64 0, .int .u32 0, .int .u8 0, .int .u8 0, .int .u8 0, .int .u8 0, .int .u8 0, .int .u8 0, .int .u8 0, .int .u8 0, .int .u8 0, .int .u8 0, .int .u8 0, .int .u8 0, .int .u8 0, .int .u8 0, .int .u8 0, .int .u8 0])) (cs := msgE.arr msg0) rfl (by kernel_rfl) rfl) ?_
        clear fr a
        intro b210 w211 hN212 B213 hb214 a fr
        have ap_P_b210 : Apart P b210 := hV.apart hb214
        have ne_b1_b210 : NE b1 b210 := NE.mk (Nat.lt_of_lt_of_le B4.lt hb214)
        have ap_V13_b210 : Apart V13 b210 := hW16.apart hb214
        have ne_b25_b210 : NE b25 b210 := NE.mk (Nat.lt_of_lt_of_le B28.lt hb214)
        have ne_b32_b210 : NE b32 b210 := NE.mk (Nat.lt_of_lt_of_le H35.ltb hb214)
        have ap_A33_b210 : Apart A33 b210 := H35.apart hb214
        have ne_b49_b210 : NE b49 b210 := NE.mk (Nat.lt_of_lt_of_le H52.ltb hb214)
        have ap_A50_b210 : Apart A50 b210 := H52.apart hb214
        have ap_A164_b210 : Apart A164 b210 := V166.apart hb214
        have ne_b42_b210 : NE b42 b210 := NE.mk (Nat.lt_of_lt_of_le B45.lt hb214)
        have ne_b9_b210 : NE b9 b210 := NE.mk (Nat.lt_of_lt_of_le H174.ltb hb214)
        have ap_A172_b210 : Apart A172 b210 := H174.apart hb214
        have ap_A180_b210 : Apart A180 b210 := OL.apart hb214
        have ne_b194_b210 : NE b194 b210 := NE.mk (Nat.lt_of_lt_of_le H197.ltb hb214)
        have ap_A195_b210 : Apart A195 b210 := H197.apart hb214
        have ne_b202_b210 : NE b202 b210 := NE.mk (Nat.lt_of_lt_of_le H205.ltb hb214)
        have ap_A203_b210 : Apart A203 b210 := H205.apart hb214
        have g_b210 := Nat.le_trans hF.size hb214
        replace hV := hV.new hN212
        replace B4 := B4.new hN212
        replace hW16 := hW16.new hN212
        replace B28 := B28.new hN212
        replace H35 := H35.new hN212
        replace H52 := H52.new hN212
        replace V166 := V166.new hN212
        replace B45 := B45.new hN212
        replace H174 := H174.new hN212
        replace OL := OL.new hN212
        replace H197 := H197.new hN212
        replace H205 := H205.new hN212
        replace hF := hF.trNew hN212
        refine fx_storeS sz26 rfl rfl rfl (fr.ev rfl) (fr.ev rfl) (msgE.all _) B213 (msgE.size _) (msgE.size _) fun w215 hO216 hBq => ?_
        replace hV := hV.only hO216 (Apart.ne1 ap_P_b210)
        replace B4 := B4.only hO216 (by first | exact ne_b1_b210 | exact ne_b210_b1.symm | (show ¬ b1 = b210; omega))
        replace hW16 := hW16.only hO216 (Apart.ne1 ap_V13_b210)
        replace B28 := B28.only hO216 (by first | exact ne_b25_b210 | exact ne_b210_b25.symm | (show ¬ b25 = b210; omega))
        replace H35 := H35.only hO216 (by first | exact ne_b32_b210 | exact ne_b210_b32.symm | (show ¬ b32 = b210; omega)) (Apart.ne1 ap_A33_b210)
        replace H52 := H52.only hO216 (by first | exact ne_b49_b210 | exact ne_b210_b49.symm | (show ¬ b49 = b210; omega)) (Apart.ne1 ap_A50_b210)
        replace V166 := V166.only hO216 (Apart.ne1 ap_A164_b210)
        replace B45 := B45.only hO216 (by first | exact ne_b42_b210 | exact ne_b210_b42.symm | (show ¬ b42 = b210; omega))
        replace H174 := H174.only hO216 (by first | exact ne_b9_b210 | exact ne_b210_b9.symm | (show ¬ b9 = b210; omega)) (Apart.ne1 ap_A172_b210)
        replace OL := OL.only hO216 (Apart.ne1 ap_A180_b210)
        replace H197 := H197.only hO216 (by first | exact ne_b194_b210 | exact ne_b210_b194.symm | (show ¬ b194 = b210; omega)) (Apart.ne1 ap_A195_b210)
        replace H205 := H205.only hO216 (by first | exact ne_b202_b210 | exact ne_b210_b202.symm | (show ¬ b202 = b210; omega)) (Apart.ne1 ap_A203_b210)
        replace hF := hF.loc hO216 (.inr g_b210)
        replace B213 := hBq
        clear hBq
        refine wpList_nil ?_
        refine fx_next ?_
        refine wp_seq ?_
        have hs2 := sendL_le most l12 ⟨13, 2, 4, 9, bs0⟩
        refine wp_region_lit ?_  -- region 23
        refine fx_val (v := .agg (#[.int .i64 most, .slice V13 l12.length vc14])) fr rfl rfl (by first | decide | simp) (x_loadS ag49 rfl (fr.ev rfl) rfl B28.range) ?_
        clear fr a; intro a fr
        refine fx_val (v := .agg (msgE.arr (⟨13, 2, 4, 9, bs0⟩))) fr rfl rfl (by first | decide | simp) (x_loadE (E := msgE) ag26 rfl rfl (fr.ev rfl) (B213.rangeE msgE)) ?_
        clear fr a; intro a fr
        refine fx_call fr rfl rfl (by first | decide | simp) (x_call (vs := [.agg (#[.int .i64 most, .slice V13 l12.length vc14]), .agg (msgE.arr (⟨13, 2, 4, 9, bs0⟩))]) rfl rfl ⟨(fr.ev rfl), (fr.ev rfl), trivial⟩ Try.func23 nm23 rfl) (rsend_c (⟨13, 2, 4, 9, bs0⟩) hW16 (by omega)) ?_
        clear fr a
        rintro v w221 ⟨A217, cap218, rfl, V219, mv220, hN222⟩ a fr
        have ap_A217_b1 : Apart A217 b1 := moved_apart mv220 ap_V13_b1 B4.lt
        have ap_A217_b25 : Apart A217 b25 := moved_apart mv220 ap_V13_b25 B28.lt
        have ap_A217_b32 : Apart A217 b32 := moved_apart mv220 ap_V13_b32 H35.ltb
        have ap2_A217_A33 : Apart2 A217 A33 := moved_apart2 mv220 ap2_V13_A33 fun _ hg => H35.lt hg
        have ap_A217_b49 : Apart A217 b49 := moved_apart mv220 ap_V13_b49 H52.ltb
        have ap2_A217_A50 : Apart2 A217 A50 := moved_apart2 mv220 ap2_V13_A50 fun _ hg => H52.lt hg
        have ap_A217_b42 : Apart A217 b42 := moved_apart mv220 ap_V13_b42 B45.lt
        have ap_A217_b9 : Apart A217 b9 := moved_apart mv220 ap_V13_b9 H174.ltb
        have ap2_A217_A172 : Apart2 A217 A172 := moved_apart2 mv220 ap2_A172_V13.symm fun _ hg => H174.lt hg
        have ap2_A217_A180 : Apart2 A217 A180 := moved_apart2 mv220 ap2_V13_A180 fun _ hg => OL.lt hg
        have ap_A217_b194 : Apart A217 b194 := moved_apart mv220 ap_V13_b194 H197.ltb
        have ap2_A217_A195 : Apart2 A217 A195 := moved_apart2 mv220 ap2_V13_A195 fun _ hg => H197.lt hg
        have ap_A217_b202 : Apart A217 b202 := moved_apart mv220 ap_V13_b202 H205.ltb
        have ap2_A217_A203 : Apart2 A217 A203 := moved_apart2 mv220 ap2_V13_A203 fun _ hg => H205.lt hg
        have ap_A217_b210 : Apart A217 b210 := moved_apart mv220 ap_V13_b210 B213.lt
        have gA_A217 := gA_moved hF mv220 gA_V13
        replace hV := hV.new hN222
        replace B4 := B4.new hN222
        replace hW16 := hW16.new hN222
        replace B28 := B28.new hN222
        replace H35 := H35.new hN222
        replace H52 := H52.new hN222
        replace V166 := V166.new hN222
        replace B45 := B45.new hN222
        replace H174 := H174.new hN222
        replace OL := OL.new hN222
        replace H197 := H197.new hN222
        replace H205 := H205.new hN222
        replace B213 := B213.new hN222
        replace hF := hF.trNew hN222
        refine fx_val (v := .tuple #[.agg (#[.int .i64 most, .slice A217 ((sendL most l12 (⟨13, 2, 4, 9, bs0⟩)).length) cap218]), .int .i64 (sendE most l12 (⟨13, 2, 4, 9, bs0⟩))]) fr rfl rfl (by first | decide | simp) (x_move rfl (fr.ev rfl)) ?_
        clear fr a; intro a fr
        refine fx_val (v := .agg (#[.int .i64 most, .slice A217 ((sendL most l12 (⟨13, 2, 4, 9, bs0⟩)).length) cap218])) fr rfl rfl (by first | decide | simp) (x_extract rfl (fr.ev rfl) rfl) ?_
        clear fr a; intro a fr
        refine fx_val (v := .int .i64 (sendE most l12 (⟨13, 2, 4, 9, bs0⟩))) fr rfl rfl (by first | decide | simp) (x_extract rfl (fr.ev rfl) rfl) ?_
        clear fr a; intro a fr
        refine fx_new fr rfl rfl (by first | decide | simp) (x_alloc (z := .agg (#[.int .i64 0, .slice none 0 0])) (cs := #[.int .i64 0, .slice none 0 0]) rfl (by kernel_rfl) rfl) ?_
        clear fr a
        intro b223 w224 hN225 B226 hb227 a fr
        have ap_P_b223 : Apart P b223 := hV.apart hb227
        have ne_b1_b223 : NE b1 b223 := NE.mk (Nat.lt_of_lt_of_le B4.lt hb227)
        have ap_V13_b223 : Apart V13 b223 := hW16.apart hb227
        have ne_b25_b223 : NE b25 b223 := NE.mk (Nat.lt_of_lt_of_le B28.lt hb227)
        have ne_b32_b223 : NE b32 b223 := NE.mk (Nat.lt_of_lt_of_le H35.ltb hb227)
        have ap_A33_b223 : Apart A33 b223 := H35.apart hb227
        have ne_b49_b223 : NE b49 b223 := NE.mk (Nat.lt_of_lt_of_le H52.ltb hb227)
        have ap_A50_b223 : Apart A50 b223 := H52.apart hb227
        have ap_A164_b223 : Apart A164 b223 := V166.apart hb227
        have ne_b42_b223 : NE b42 b223 := NE.mk (Nat.lt_of_lt_of_le B45.lt hb227)
        have ne_b9_b223 : NE b9 b223 := NE.mk (Nat.lt_of_lt_of_le H174.ltb hb227)
        have ap_A172_b223 : Apart A172 b223 := H174.apart hb227
        have ap_A180_b223 : Apart A180 b223 := OL.apart hb227
        have ne_b194_b223 : NE b194 b223 := NE.mk (Nat.lt_of_lt_of_le H197.ltb hb227)
        have ap_A195_b223 : Apart A195 b223 := H197.apart hb227
        have ne_b202_b223 : NE b202 b223 := NE.mk (Nat.lt_of_lt_of_le H205.ltb hb227)
        have ap_A203_b223 : Apart A203 b223 := H205.apart hb227
        have ne_b210_b223 : NE b210 b223 := NE.mk (Nat.lt_of_lt_of_le B213.lt hb227)
        have ap_A217_b223 : Apart A217 b223 := V219.apart hb227
        have g_b223 := Nat.le_trans hF.size hb227
        replace hV := hV.new hN225
        replace B4 := B4.new hN225
        replace hW16 := hW16.new hN225
        replace B28 := B28.new hN225
        replace H35 := H35.new hN225
        replace H52 := H52.new hN225
        replace V166 := V166.new hN225
        replace B45 := B45.new hN225
        replace H174 := H174.new hN225
        replace OL := OL.new hN225
        replace H197 := H197.new hN225
        replace H205 := H205.new hN225
        replace B213 := B213.new hN225
        replace V219 := V219.new hN225
        replace hF := hF.trNew hN225
        refine fx_storeS sz49 rfl rfl rfl (fr.ev rfl) (fr.ev rfl) (by simp [Value.oneCell']) B226 rfl rfl fun w228 hO229 hBq => ?_
        replace hV := hV.only hO229 (Apart.ne1 ap_P_b223)
        replace B4 := B4.only hO229 (by first | exact ne_b1_b223 | exact ne_b223_b1.symm | (show ¬ b1 = b223; omega))
        replace hW16 := hW16.only hO229 (Apart.ne1 ap_V13_b223)
        replace B28 := B28.only hO229 (by first | exact ne_b25_b223 | exact ne_b223_b25.symm | (show ¬ b25 = b223; omega))
        replace H35 := H35.only hO229 (by first | exact ne_b32_b223 | exact ne_b223_b32.symm | (show ¬ b32 = b223; omega)) (Apart.ne1 ap_A33_b223)
        replace H52 := H52.only hO229 (by first | exact ne_b49_b223 | exact ne_b223_b49.symm | (show ¬ b49 = b223; omega)) (Apart.ne1 ap_A50_b223)
        replace V166 := V166.only hO229 (Apart.ne1 ap_A164_b223)
        replace B45 := B45.only hO229 (by first | exact ne_b42_b223 | exact ne_b223_b42.symm | (show ¬ b42 = b223; omega))
        replace H174 := H174.only hO229 (by first | exact ne_b9_b223 | exact ne_b223_b9.symm | (show ¬ b9 = b223; omega)) (Apart.ne1 ap_A172_b223)
        replace OL := OL.only hO229 (Apart.ne1 ap_A180_b223)
        replace H197 := H197.only hO229 (by first | exact ne_b194_b223 | exact ne_b223_b194.symm | (show ¬ b194 = b223; omega)) (Apart.ne1 ap_A195_b223)
        replace H205 := H205.only hO229 (by first | exact ne_b202_b223 | exact ne_b223_b202.symm | (show ¬ b202 = b223; omega)) (Apart.ne1 ap_A203_b223)
        replace B213 := B213.only hO229 (by first | exact ne_b210_b223 | exact ne_b223_b210.symm | (show ¬ b210 = b223; omega))
        replace V219 := V219.only hO229 (Apart.ne1 ap_A217_b223)
        replace hF := hF.loc hO229 (.inr g_b223)
        replace B226 := hBq
        clear hBq
        refine fx_val (v := .int .i64 (sendE most l12 (⟨13, 2, 4, 9, bs0⟩))) fr rfl rfl (by first | decide | simp) (x_assign rfl (fr.ev rfl)) ?_
        clear fr a; intro a fr
        refine wpList_nil ?_
        refine fx_next ?_
        refine wp_seq ?_
        refine wp_region_lit ?_  -- region 24
        refine fx_val (v := .pointer (some ⟨b32, 0, none⟩)) fr rfl rfl (by first | decide | simp) (x_move rfl (fr.ev rfl)) ?_
        clear fr a; intro a fr
        refine fx_call fr rfl rfl (by first | decide | simp) (x_call (vs := [.pointer (some ⟨b32, 0, none⟩)]) rfl rfl ⟨(fr.ev rfl), trivial⟩ Try.func26 nm26 rfl) (copy_c H35 (by omega) (by omega)) ?_
        clear fr a
        rintro v w236 ⟨b230, A231, cap232, rfl, H233, hb234, hA235, hN237⟩ a fr
        have ap_P_b230 : Apart P b230 := hV.apart hb234
        have ne_b1_b230 : NE b1 b230 := NE.mk (Nat.lt_of_lt_of_le B4.lt hb234)
        have ap_V13_b230 : Apart V13 b230 := hW16.apart hb234
        have ne_b25_b230 : NE b25 b230 := NE.mk (Nat.lt_of_lt_of_le B28.lt hb234)
        have ne_b32_b230 : NE b32 b230 := NE.mk (Nat.lt_of_lt_of_le H35.ltb hb234)
        have ap_A33_b230 : Apart A33 b230 := H35.apart hb234
        have ne_b49_b230 : NE b49 b230 := NE.mk (Nat.lt_of_lt_of_le H52.ltb hb234)
        have ap_A50_b230 : Apart A50 b230 := H52.apart hb234
        have ap_A164_b230 : Apart A164 b230 := V166.apart hb234
        have ne_b42_b230 : NE b42 b230 := NE.mk (Nat.lt_of_lt_of_le B45.lt hb234)
        have ne_b9_b230 : NE b9 b230 := NE.mk (Nat.lt_of_lt_of_le H174.ltb hb234)
        have ap_A172_b230 : Apart A172 b230 := H174.apart hb234
        have ap_A180_b230 : Apart A180 b230 := OL.apart hb234
        have ne_b194_b230 : NE b194 b230 := NE.mk (Nat.lt_of_lt_of_le H197.ltb hb234)
        have ap_A195_b230 : Apart A195 b230 := H197.apart hb234
        have ne_b202_b230 : NE b202 b230 := NE.mk (Nat.lt_of_lt_of_le H205.ltb hb234)
        have ap_A203_b230 : Apart A203 b230 := H205.apart hb234
        have ne_b210_b230 : NE b210 b230 := NE.mk (Nat.lt_of_lt_of_le B213.lt hb234)
        have ap_A217_b230 : Apart A217 b230 := V219.apart hb234
        have ne_b223_b230 : NE b223 b230 := NE.mk (Nat.lt_of_lt_of_le B226.lt hb234)
        have g_b230 := Nat.le_trans hF.size hb234
        have ap2_P_A231 : Apart2 P A231 := (new_apart2 hA235 fun _ hg => hV.lt hg).symm
        have ap_A231_b1 : Apart A231 b1 := new_apart hA235 B4.lt
        have ap2_V13_A231 : Apart2 V13 A231 := (new_apart2 hA235 fun _ hg => hW16.lt hg).symm
        have ap_A231_b25 : Apart A231 b25 := new_apart hA235 B28.lt
        have ap_A231_b32 : Apart A231 b32 := new_apart hA235 H35.ltb
        have ap2_A33_A231 : Apart2 A33 A231 := (new_apart2 hA235 fun _ hg => H35.lt hg).symm
        have ap_A231_b49 : Apart A231 b49 := new_apart hA235 H52.ltb
        have ap2_A50_A231 : Apart2 A50 A231 := (new_apart2 hA235 fun _ hg => H52.lt hg).symm
        have ap2_A164_A231 : Apart2 A164 A231 := (new_apart2 hA235 fun _ hg => V166.lt hg).symm
        have ap_A231_b42 : Apart A231 b42 := new_apart hA235 B45.lt
        have ap_A231_b9 : Apart A231 b9 := new_apart hA235 H174.ltb
        have ap2_A172_A231 : Apart2 A172 A231 := (new_apart2 hA235 fun _ hg => H174.lt hg).symm
        have ap2_A180_A231 : Apart2 A180 A231 := (new_apart2 hA235 fun _ hg => OL.lt hg).symm
        have ap_A231_b194 : Apart A231 b194 := new_apart hA235 H197.ltb
        have ap2_A195_A231 : Apart2 A195 A231 := (new_apart2 hA235 fun _ hg => H197.lt hg).symm
        have ap_A231_b202 : Apart A231 b202 := new_apart hA235 H205.ltb
        have ap2_A203_A231 : Apart2 A203 A231 := (new_apart2 hA235 fun _ hg => H205.lt hg).symm
        have ap_A231_b210 : Apart A231 b210 := new_apart hA235 B213.lt
        have ap2_A217_A231 : Apart2 A217 A231 := (new_apart2 hA235 fun _ hg => V219.lt hg).symm
        have ap_A231_b223 : Apart A231 b223 := new_apart hA235 B226.lt
        have gA_A231 := gA_new hF hA235
        replace hV := hV.new hN237
        replace B4 := B4.new hN237
        replace hW16 := hW16.new hN237
        replace B28 := B28.new hN237
        replace H35 := H35.new hN237
        replace H52 := H52.new hN237
        replace V166 := V166.new hN237
        replace B45 := B45.new hN237
        replace H174 := H174.new hN237
        replace OL := OL.new hN237
        replace H197 := H197.new hN237
        replace H205 := H205.new hN237
        replace B213 := B213.new hN237
        replace V219 := V219.new hN237
        replace B226 := B226.new hN237
        replace hF := hF.trNew hN237
        refine fx_val (v := .pointer (some ⟨b230, 0, none⟩)) fr rfl rfl (by first | decide | simp) (x_assign rfl (fr.ev rfl)) ?_
        clear fr a; intro a fr
        refine wpList_nil ?_
        refine fx_next ?_
        refine wp_seq ?_
        refine wp_seq ?_
        refine wp_region_lit ?_  -- region 25
        refine fx_val (v := .pointer (some ⟨b230, 0, none⟩)) fr rfl rfl (by first | decide | simp) (x_move rfl (fr.ev rfl)) ?_
        clear fr a; intro a fr
        refine fx_val (v := .agg (msgE.arr (⟨13, 2, 4, 9, bs0⟩))) fr rfl rfl (by first | decide | simp) (x_loadE (E := msgE) ag26 rfl rfl (fr.ev rfl) (B213.rangeE msgE)) ?_
        clear fr a; intro a fr
        refine fx_call fr rfl rfl (by first | decide | simp) (x_call (vs := [.pointer (some ⟨b230, 0, none⟩), .agg (msgE.arr (⟨13, 2, 4, 9, bs0⟩))]) rfl rfl ⟨(fr.ev rfl), (fr.ev rfl), trivial⟩ Try.func15 nm15 rfl) (send_c (⟨13, 2, 4, 9, bs0⟩) H233 (by omega) (by omega)) ?_
        clear fr a
        rintro v w242 ⟨rfl, A238, cap239, H240, hN243, mv241⟩ a fr
        have ap2_A238_P : Apart2 A238 P := moved_apart2 mv241 ap2_P_A231.symm fun _ hg => hV.lt hg
        have ap_A238_b1 : Apart A238 b1 := moved_apart mv241 ap_A231_b1 B4.lt
        have ap2_A238_V13 : Apart2 A238 V13 := moved_apart2 mv241 ap2_V13_A231.symm fun _ hg => hW16.lt hg
        have ap_A238_b25 : Apart A238 b25 := moved_apart mv241 ap_A231_b25 B28.lt
        have ap_A238_b32 : Apart A238 b32 := moved_apart mv241 ap_A231_b32 H35.ltb
        have ap2_A238_A33 : Apart2 A238 A33 := moved_apart2 mv241 ap2_A33_A231.symm fun _ hg => H35.lt hg
        have ap_A238_b49 : Apart A238 b49 := moved_apart mv241 ap_A231_b49 H52.ltb
        have ap2_A238_A50 : Apart2 A238 A50 := moved_apart2 mv241 ap2_A50_A231.symm fun _ hg => H52.lt hg
        have ap2_A238_A164 : Apart2 A238 A164 := moved_apart2 mv241 ap2_A164_A231.symm fun _ hg => V166.lt hg
        have ap_A238_b42 : Apart A238 b42 := moved_apart mv241 ap_A231_b42 B45.lt
        have ap_A238_b9 : Apart A238 b9 := moved_apart mv241 ap_A231_b9 H174.ltb
        have ap2_A238_A172 : Apart2 A238 A172 := moved_apart2 mv241 ap2_A172_A231.symm fun _ hg => H174.lt hg
        have ap2_A238_A180 : Apart2 A238 A180 := moved_apart2 mv241 ap2_A180_A231.symm fun _ hg => OL.lt hg
        have ap_A238_b194 : Apart A238 b194 := moved_apart mv241 ap_A231_b194 H197.ltb
        have ap2_A238_A195 : Apart2 A238 A195 := moved_apart2 mv241 ap2_A195_A231.symm fun _ hg => H197.lt hg
        have ap_A238_b202 : Apart A238 b202 := moved_apart mv241 ap_A231_b202 H205.ltb
        have ap2_A238_A203 : Apart2 A238 A203 := moved_apart2 mv241 ap2_A203_A231.symm fun _ hg => H205.lt hg
        have ap_A238_b210 : Apart A238 b210 := moved_apart mv241 ap_A231_b210 B213.lt
        have ap2_A238_A217 : Apart2 A238 A217 := moved_apart2 mv241 ap2_A217_A231.symm fun _ hg => V219.lt hg
        have ap_A238_b223 : Apart A238 b223 := moved_apart mv241 ap_A231_b223 B226.lt
        have gA_A238 := gA_moved hF mv241 gA_A231
        replace hV := hV.only hN243 (fun g hg h => h.elim ((Apart.ne1 ap_P_b230) g hg) ((fun g h1 h2 => ap2_P_A231 g h1 h2) g hg))
        replace B4 := B4.only hN243 (fun h => h.elim (by first | exact ne_b1_b230 | exact ne_b230_b1.symm | (show ¬ b1 = b230; omega)) ap_A231_b1)
        replace hW16 := hW16.only hN243 (fun g hg h => h.elim ((Apart.ne1 ap_V13_b230) g hg) ((fun g h1 h2 => ap2_V13_A231 g h1 h2) g hg))
        replace B28 := B28.only hN243 (fun h => h.elim (by first | exact ne_b25_b230 | exact ne_b230_b25.symm | (show ¬ b25 = b230; omega)) ap_A231_b25)
        replace H35 := H35.only hN243 (fun h => h.elim (by first | exact ne_b32_b230 | exact ne_b230_b32.symm | (show ¬ b32 = b230; omega)) ap_A231_b32) (fun g hg h => h.elim ((Apart.ne1 ap_A33_b230) g hg) ((fun g h1 h2 => ap2_A33_A231 g h1 h2) g hg))
        replace H52 := H52.only hN243 (fun h => h.elim (by first | exact ne_b49_b230 | exact ne_b230_b49.symm | (show ¬ b49 = b230; omega)) ap_A231_b49) (fun g hg h => h.elim ((Apart.ne1 ap_A50_b230) g hg) ((fun g h1 h2 => ap2_A50_A231 g h1 h2) g hg))
        replace V166 := V166.only hN243 (fun g hg h => h.elim ((Apart.ne1 ap_A164_b230) g hg) ((fun g h1 h2 => ap2_A164_A231 g h1 h2) g hg))
        replace B45 := B45.only hN243 (fun h => h.elim (by first | exact ne_b42_b230 | exact ne_b230_b42.symm | (show ¬ b42 = b230; omega)) ap_A231_b42)
        replace H174 := H174.only hN243 (fun h => h.elim (by first | exact ne_b9_b230 | exact ne_b230_b9.symm | (show ¬ b9 = b230; omega)) ap_A231_b9) (fun g hg h => h.elim ((Apart.ne1 ap_A172_b230) g hg) ((fun g h1 h2 => ap2_A172_A231 g h1 h2) g hg))
        replace OL := OL.only hN243 (fun g hg h => h.elim ((Apart.ne1 ap_A180_b230) g hg) ((fun g h1 h2 => ap2_A180_A231 g h1 h2) g hg))
        replace H197 := H197.only hN243 (fun h => h.elim (by first | exact ne_b194_b230 | exact ne_b230_b194.symm | (show ¬ b194 = b230; omega)) ap_A231_b194) (fun g hg h => h.elim ((Apart.ne1 ap_A195_b230) g hg) ((fun g h1 h2 => ap2_A195_A231 g h1 h2) g hg))
        replace H205 := H205.only hN243 (fun h => h.elim (by first | exact ne_b202_b230 | exact ne_b230_b202.symm | (show ¬ b202 = b230; omega)) ap_A231_b202) (fun g hg h => h.elim ((Apart.ne1 ap_A203_b230) g hg) ((fun g h1 h2 => ap2_A203_A231 g h1 h2) g hg))
        replace B213 := B213.only hN243 (fun h => h.elim (by first | exact ne_b210_b230 | exact ne_b230_b210.symm | (show ¬ b210 = b230; omega)) ap_A231_b210)
        replace V219 := V219.only hN243 (fun g hg h => h.elim ((Apart.ne1 ap_A217_b230) g hg) ((fun g h1 h2 => ap2_A217_A231 g h1 h2) g hg))
        replace B226 := B226.only hN243 (fun h => h.elim (by first | exact ne_b223_b230 | exact ne_b230_b223.symm | (show ¬ b223 = b230; omega)) ap_A231_b223)
        replace hF := hF.loc2 hN243 (.inr g_b230) gA_A231
        clear H233
        refine fx_call fr rfl rfl (by first | decide | simp) (x_call (vs := [.int .i64 (sendE most l12 (⟨13, 2, 4, 9, bs0⟩))]) rfl rfl ⟨(fr.ev rfl), trivial⟩ Try.func10 nm10 rfl) (num_c (sendE most l12 (⟨13, 2, 4, 9, bs0⟩)) _) ?_
        clear fr a
        rintro v _ ⟨rfl, rfl⟩ a fr
        refine fx_val (v := .int .i64 (sendE most l12 (⟨13, 2, 4, 9, bs0⟩))) fr rfl rfl (by first | decide | simp) (x_move rfl (fr.ev rfl)) ?_
        clear fr a; intro a fr
        refine fx_val (v := .bool false) fr rfl rfl (by first | decide | simp) (x_neq rfl (fr.ev rfl) (fr.ev rfl) (by simp)) ?_
        clear fr a; intro a fr
        refine fx_val (v := .bool false) fr rfl rfl (by first | decide | simp) (x_move rfl (fr.ev rfl)) ?_
        clear fr a; intro a fr
        refine fx_val (v := .pointer (some ⟨b230, 0, none⟩)) fr (fr.want rfl rfl rfl) rfl (by first | decide | simp) (x_move rfl (fr.ev rfl)) ?_
        clear fr a; intro a fr
        refine fx_val (v := .agg (#[.int .i64 most, .slice A217 ((sendL most l12 (⟨13, 2, 4, 9, bs0⟩)).length) cap218])) fr (fr.want rfl rfl rfl) rfl (by first | decide | simp) (x_loadS ag49 rfl (fr.ev rfl) rfl B226.range) ?_
        clear fr a; intro a fr
        refine fx_call fr (fr.want rfl rfl rfl) rfl (by first | decide | simp) (x_call (vs := [.pointer (some ⟨b230, 0, none⟩), .agg (#[.int .i64 most, .slice A217 ((sendL most l12 (⟨13, 2, 4, 9, bs0⟩)).length) cap218])]) rfl rfl ⟨(fr.ev rfl), (fr.ev rfl), trivial⟩ Try.func22 nm22 rfl) (is_c H240 V219 (by omega) (by omega)) ?_
        clear fr a
        rintro v w246 ⟨rfl, hN247⟩ a fr
        replace hV := hV.new hN247
        replace B4 := B4.new hN247
        replace hW16 := hW16.new hN247
        replace B28 := B28.new hN247
        replace H35 := H35.new hN247
        replace H52 := H52.new hN247
        replace V166 := V166.new hN247
        replace B45 := B45.new hN247
        replace H174 := H174.new hN247
        replace OL := OL.new hN247
        replace H197 := H197.new hN247
        replace H205 := H205.new hN247
        replace B213 := B213.new hN247
        replace V219 := V219.new hN247
        replace B226 := B226.new hN247
        replace H240 := H240.new hN247
        replace hF := hF.trNew hN247
        refine fx_val (v := .bool false) fr (fr.want rfl rfl rfl) rfl (by first | decide | simp) (x_not rfl (fr.ev rfl) rfl) ?_
        clear fr a; intro a fr
        refine fx_val (v := .bool false) fr rfl rfl (by first | decide | simp) (x_pick_f rfl (fr.ev rfl) (fr.ev rfl)) ?_
        clear fr a; intro a fr
        refine fx_val (v := .bool false) fr rfl rfl (by first | decide | simp) (x_move rfl (fr.ev rfl)) ?_
        clear fr a; intro a fr
        refine fx_val (v := .pointer (some ⟨b49, 0, none⟩)) fr (fr.want rfl rfl rfl) rfl (by first | decide | simp) (x_move rfl (fr.ev rfl)) ?_
        clear fr a; intro a fr
        refine fx_val (v := .agg (msgE.arr (⟨13, 2, 4, 9, bs0⟩))) fr (fr.want rfl rfl rfl) rfl (by first | decide | simp) (x_loadE (E := msgE) ag26 rfl rfl (fr.ev rfl) (B213.rangeE msgE)) ?_
        clear fr a; intro a fr
        refine fx_call fr (fr.want rfl rfl rfl) rfl (by first | decide | simp) (x_call (vs := [.pointer (some ⟨b49, 0, none⟩), .agg (msgE.arr (⟨13, 2, 4, 9, bs0⟩))]) rfl rfl ⟨(fr.ev rfl), (fr.ev rfl), trivial⟩ Try.func15 nm15 rfl) (send_c (⟨13, 2, 4, 9, bs0⟩) H52 (by omega) (by omega)) ?_
        clear fr a
        rintro v w252 ⟨rfl, A248, cap249, H250, hN253, mv251⟩ a fr
        have ap2_A248_P : Apart2 A248 P := moved_apart2 mv251 ap2_P_A50.symm fun _ hg => hV.lt hg
        have ap_A248_b1 : Apart A248 b1 := moved_apart mv251 ap_A50_b1 B4.lt
        have ap2_A248_V13 : Apart2 A248 V13 := moved_apart2 mv251 ap2_V13_A50.symm fun _ hg => hW16.lt hg
        have ap_A248_b25 : Apart A248 b25 := moved_apart mv251 ap_A50_b25 B28.lt
        have ap_A248_b32 : Apart A248 b32 := moved_apart mv251 ap_A50_b32 H35.ltb
        have ap2_A248_A33 : Apart2 A248 A33 := moved_apart2 mv251 ap2_A33_A50.symm fun _ hg => H35.lt hg
        have ap2_A248_A164 : Apart2 A248 A164 := moved_apart2 mv251 ap2_A164_A50.symm fun _ hg => V166.lt hg
        have ap_A248_b42 : Apart A248 b42 := moved_apart mv251 ap_A50_b42 B45.lt
        have ap_A248_b9 : Apart A248 b9 := moved_apart mv251 ap_A50_b9 H174.ltb
        have ap2_A248_A172 : Apart2 A248 A172 := moved_apart2 mv251 ap2_A172_A50.symm fun _ hg => H174.lt hg
        have ap2_A248_A180 : Apart2 A248 A180 := moved_apart2 mv251 ap2_A50_A180 fun _ hg => OL.lt hg
        have ap_A248_b194 : Apart A248 b194 := moved_apart mv251 ap_A50_b194 H197.ltb
        have ap2_A248_A195 : Apart2 A248 A195 := moved_apart2 mv251 ap2_A50_A195 fun _ hg => H197.lt hg
        have ap_A248_b202 : Apart A248 b202 := moved_apart mv251 ap_A50_b202 H205.ltb
        have ap2_A248_A203 : Apart2 A248 A203 := moved_apart2 mv251 ap2_A50_A203 fun _ hg => H205.lt hg
        have ap_A248_b210 : Apart A248 b210 := moved_apart mv251 ap_A50_b210 B213.lt
        have ap2_A248_A217 : Apart2 A248 A217 := moved_apart2 mv251 ap2_A217_A50.symm fun _ hg => V219.lt hg
        have ap_A248_b223 : Apart A248 b223 := moved_apart mv251 ap_A50_b223 B226.lt
        have ap_A248_b230 : Apart A248 b230 := moved_apart mv251 ap_A50_b230 H240.ltb
        have ap2_A248_A238 : Apart2 A248 A238 := moved_apart2 mv251 ap2_A238_A50.symm fun _ hg => H240.lt hg
        have gA_A248 := gA_moved hF mv251 gA_A50
        replace hV := hV.only hN253 (fun g hg h => h.elim ((Apart.ne1 ap_P_b49) g hg) ((fun g h1 h2 => ap2_P_A50 g h1 h2) g hg))
        replace B4 := B4.only hN253 (fun h => h.elim (by first | exact ne_b1_b49 | exact ne_b49_b1.symm | (show ¬ b1 = b49; omega)) ap_A50_b1)
        replace hW16 := hW16.only hN253 (fun g hg h => h.elim ((Apart.ne1 ap_V13_b49) g hg) ((fun g h1 h2 => ap2_V13_A50 g h1 h2) g hg))
        replace B28 := B28.only hN253 (fun h => h.elim (by first | exact ne_b25_b49 | exact ne_b49_b25.symm | (show ¬ b25 = b49; omega)) ap_A50_b25)
        replace H35 := H35.only hN253 (fun h => h.elim (by first | exact ne_b32_b49 | exact ne_b49_b32.symm | (show ¬ b32 = b49; omega)) ap_A50_b32) (fun g hg h => h.elim ((Apart.ne1 ap_A33_b49) g hg) ((fun g h1 h2 => ap2_A33_A50 g h1 h2) g hg))
        replace V166 := V166.only hN253 (fun g hg h => h.elim ((Apart.ne1 ap_A164_b49) g hg) ((fun g h1 h2 => ap2_A164_A50 g h1 h2) g hg))
        replace B45 := B45.only hN253 (fun h => h.elim (by first | exact ne_b42_b49 | exact ne_b49_b42.symm | (show ¬ b42 = b49; omega)) ap_A50_b42)
        replace H174 := H174.only hN253 (fun h => h.elim (by first | exact ne_b9_b49 | exact ne_b49_b9.symm | (show ¬ b9 = b49; omega)) ap_A50_b9) (fun g hg h => h.elim ((Apart.ne1 ap_A172_b49) g hg) ((fun g h1 h2 => ap2_A172_A50 g h1 h2) g hg))
        replace OL := OL.only hN253 (fun g hg h => h.elim ((Apart.ne1 ap_A180_b49) g hg) ((fun g h1 h2 => ap2_A50_A180.symm g h1 h2) g hg))
        replace H197 := H197.only hN253 (fun h => h.elim (by first | exact ne_b194_b49 | exact ne_b49_b194.symm | (show ¬ b194 = b49; omega)) ap_A50_b194) (fun g hg h => h.elim ((Apart.ne1 ap_A195_b49) g hg) ((fun g h1 h2 => ap2_A50_A195.symm g h1 h2) g hg))
        replace H205 := H205.only hN253 (fun h => h.elim (by first | exact ne_b202_b49 | exact ne_b49_b202.symm | (show ¬ b202 = b49; omega)) ap_A50_b202) (fun g hg h => h.elim ((Apart.ne1 ap_A203_b49) g hg) ((fun g h1 h2 => ap2_A50_A203.symm g h1 h2) g hg))
        replace B213 := B213.only hN253 (fun h => h.elim (by first | exact ne_b210_b49 | exact ne_b49_b210.symm | (show ¬ b210 = b49; omega)) ap_A50_b210)
        replace V219 := V219.only hN253 (fun g hg h => h.elim ((Apart.ne1 ap_A217_b49) g hg) ((fun g h1 h2 => ap2_A217_A50 g h1 h2) g hg))
        replace B226 := B226.only hN253 (fun h => h.elim (by first | exact ne_b223_b49 | exact ne_b49_b223.symm | (show ¬ b223 = b49; omega)) ap_A50_b223)
        replace H240 := H240.only hN253 (fun h => h.elim (by first | exact ne_b230_b49 | exact ne_b49_b230.symm | (show ¬ b230 = b49; omega)) ap_A50_b230) (fun g hg h => h.elim ((Apart.ne1 ap_A238_b49) g hg) ((fun g h1 h2 => ap2_A238_A50 g h1 h2) g hg))
        replace hF := hF.loc2 hN253 (.inr g_b49) gA_A50
        clear H52
        refine fx_call fr (fr.want rfl rfl rfl) rfl (by first | decide | simp) (x_call (vs := [.int .i64 (sendE most l12 (⟨13, 2, 4, 9, bs0⟩))]) rfl rfl ⟨(fr.ev rfl), trivial⟩ Try.func10 nm10 rfl) (num_c (sendE most l12 (⟨13, 2, 4, 9, bs0⟩)) _) ?_
        clear fr a
        rintro v _ ⟨rfl, rfl⟩ a fr
        refine fx_val (v := .int .i64 (sendE most l12 (⟨13, 2, 4, 9, bs0⟩))) fr (fr.want rfl rfl rfl) rfl (by first | decide | simp) (x_move rfl (fr.ev rfl)) ?_
        clear fr a; intro a fr
        refine fx_val (v := .bool false) fr (fr.want rfl rfl rfl) rfl (by first | decide | simp) (x_neq rfl (fr.ev rfl) (fr.ev rfl) (by simp)) ?_
        clear fr a; intro a fr
        refine fx_val (v := .bool false) fr rfl rfl (by first | decide | simp) (x_pick_f rfl (fr.ev rfl) (fr.ev rfl)) ?_
        clear fr a; intro a fr
        refine fx_val (v := .bool false) fr rfl rfl (by first | decide | simp) (x_move rfl (fr.ev rfl)) ?_
        clear fr a; intro a fr
        refine fx_val (v := .pointer (some ⟨b49, 0, none⟩)) fr (fr.want rfl rfl rfl) rfl (by first | decide | simp) (x_move rfl (fr.ev rfl)) ?_
        clear fr a; intro a fr
        refine fx_val (v := .agg (#[.int .i64 most, .slice A217 ((sendL most l12 (⟨13, 2, 4, 9, bs0⟩)).length) cap218])) fr (fr.want rfl rfl rfl) rfl (by first | decide | simp) (x_loadS ag49 rfl (fr.ev rfl) rfl B226.range) ?_
        clear fr a; intro a fr
        refine fx_call fr (fr.want rfl rfl rfl) rfl (by first | decide | simp) (x_call (vs := [.pointer (some ⟨b49, 0, none⟩), .agg (#[.int .i64 most, .slice A217 ((sendL most l12 (⟨13, 2, 4, 9, bs0⟩)).length) cap218])]) rfl rfl ⟨(fr.ev rfl), (fr.ev rfl), trivial⟩ Try.func22 nm22 rfl) (is_c H250 V219 (by omega) (by omega)) ?_
        clear fr a
        rintro v w256 ⟨rfl, hN257⟩ a fr
        replace hV := hV.new hN257
        replace B4 := B4.new hN257
        replace hW16 := hW16.new hN257
        replace B28 := B28.new hN257
        replace H35 := H35.new hN257
        replace V166 := V166.new hN257
        replace B45 := B45.new hN257
        replace H174 := H174.new hN257
        replace OL := OL.new hN257
        replace H197 := H197.new hN257
        replace H205 := H205.new hN257
        replace B213 := B213.new hN257
        replace V219 := V219.new hN257
        replace B226 := B226.new hN257
        replace H240 := H240.new hN257
        replace H250 := H250.new hN257
        replace hF := hF.trNew hN257
        refine fx_val (v := .bool false) fr (fr.want rfl rfl rfl) rfl (by first | decide | simp) (x_not rfl (fr.ev rfl) rfl) ?_
        clear fr a; intro a fr
        refine fx_val (v := .bool false) fr rfl rfl (by first | decide | simp) (x_pick_f rfl (fr.ev rfl) (fr.ev rfl)) ?_
        clear fr a; intro a fr
        refine wpList_nil ?_
        refine fx_next ?_
        refine fx_cond_f fr rfl ?_
        refine wp_skip ?_
        refine fx_next ?_
        refine wp_seq ?_
        refine wp_region_lit ?_  -- region 27
        refine fx_val (v := .pointer (some ⟨b32, 0, none⟩)) fr rfl rfl (by first | decide | simp) (x_move rfl (fr.ev rfl)) ?_
        clear fr a; intro a fr
        refine fx_val (v := .agg (#[.int .i64 most, .slice V13 l12.length vc14])) fr rfl rfl (by first | decide | simp) (x_loadS ag49 rfl (fr.ev rfl) rfl B28.range) ?_
        clear fr a; intro a fr
        refine fx_call fr rfl rfl (by first | decide | simp) (x_call (vs := [.pointer (some ⟨b32, 0, none⟩), .agg (#[.int .i64 most, .slice V13 l12.length vc14])]) rfl rfl ⟨(fr.ev rfl), (fr.ev rfl), trivial⟩ Try.func22 nm22 rfl) (is_c H35 hW16 (by omega) (by omega)) ?_
        clear fr a
        rintro v w258 ⟨rfl, hN259⟩ a fr
        replace hV := hV.new hN259
        replace B4 := B4.new hN259
        replace hW16 := hW16.new hN259
        replace B28 := B28.new hN259
        replace H35 := H35.new hN259
        replace V166 := V166.new hN259
        replace B45 := B45.new hN259
        replace H174 := H174.new hN259
        replace OL := OL.new hN259
        replace H197 := H197.new hN259
        replace H205 := H205.new hN259
        replace B213 := B213.new hN259
        replace V219 := V219.new hN259
        replace B226 := B226.new hN259
        replace H240 := H240.new hN259
        replace H250 := H250.new hN259
        replace hF := hF.trNew hN259
        refine fx_val (v := .bool true) fr rfl rfl (by first | decide | simp) (x_move rfl (fr.ev rfl)) ?_
        clear fr a; intro a fr
        refine fx_val (v := .pointer (some ⟨b9, 0, none⟩)) fr (fr.want rfl rfl rfl) rfl (by first | decide | simp) (x_move rfl (fr.ev rfl)) ?_
        clear fr a; intro a fr
        refine fx_val (v := .agg (#[.int .i64 most, .slice A164 ((sendL most l12 x.msg).length) cap165])) fr (fr.want rfl rfl rfl) rfl (by first | decide | simp) (x_loadS ag49 rfl (fr.ev rfl) rfl B45.range) ?_
        clear fr a; intro a fr
        refine fx_call fr (fr.want rfl rfl rfl) rfl (by first | decide | simp) (x_call (vs := [.pointer (some ⟨b9, 0, none⟩), .agg (#[.int .i64 most, .slice A164 ((sendL most l12 x.msg).length) cap165])]) rfl rfl ⟨(fr.ev rfl), (fr.ev rfl), trivial⟩ Try.func22 nm22 rfl) (is_c H174 V166 (by omega) (by omega)) ?_
        clear fr a
        rintro v w260 ⟨rfl, hN261⟩ a fr
        replace hV := hV.new hN261
        replace B4 := B4.new hN261
        replace hW16 := hW16.new hN261
        replace B28 := B28.new hN261
        replace H35 := H35.new hN261
        replace V166 := V166.new hN261
        replace B45 := B45.new hN261
        replace H174 := H174.new hN261
        replace OL := OL.new hN261
        replace H197 := H197.new hN261
        replace H205 := H205.new hN261
        replace B213 := B213.new hN261
        replace V219 := V219.new hN261
        replace B226 := B226.new hN261
        replace H240 := H240.new hN261
        replace H250 := H250.new hN261
        replace hF := hF.trNew hN261
        refine fx_val (v := .bool true) fr rfl rfl (by first | decide | simp) (x_pick_t rfl (fr.ev rfl) (fr.ev rfl)) ?_
        clear fr a; intro a fr
        refine fx_val (v := .bool true) fr rfl rfl (by first | decide | simp) (x_move rfl (fr.ev rfl)) ?_
        clear fr a; intro a fr
        refine fx_val (v := .pointer (some ⟨b9, 0, none⟩)) fr (fr.want rfl rfl rfl) rfl (by first | decide | simp) (x_move rfl (fr.ev rfl)) ?_
        clear fr a; intro a fr
        refine fx_val (v := .pointer (some ⟨b32, 0, none⟩)) fr (fr.want rfl rfl rfl) rfl (by first | decide | simp) (x_move rfl (fr.ev rfl)) ?_
        clear fr a; intro a fr
        refine fx_call fr (fr.want rfl rfl rfl) rfl (by first | decide | simp) (x_call (vs := [.pointer (some ⟨b9, 0, none⟩), .pointer (some ⟨b32, 0, none⟩)]) rfl rfl ⟨(fr.ev rfl), (fr.ev rfl), trivial⟩ Try.func27 nm27 rfl) (same_xx H174 H35 (by omega) (by omega)) ?_
        clear fr a
        rintro v w262 ⟨rfl, hN263⟩ a fr
        replace hV := hV.new hN263
        replace B4 := B4.new hN263
        replace hW16 := hW16.new hN263
        replace B28 := B28.new hN263
        replace H35 := H35.new hN263
        replace V166 := V166.new hN263
        replace B45 := B45.new hN263
        replace H174 := H174.new hN263
        replace OL := OL.new hN263
        replace H197 := H197.new hN263
        replace H205 := H205.new hN263
        replace B213 := B213.new hN263
        replace V219 := V219.new hN263
        replace B226 := B226.new hN263
        replace H240 := H240.new hN263
        replace H250 := H250.new hN263
        replace hF := hF.trNew hN263
        rw [show (decide (most = most) && decide (((sendL most l12 x.msg) : List Msg) = l12)) = decide ((sendL most l12 x.msg) = l12) from by simp] at fr
        refine fx_val (v := .bool (decide (sendL most l12 x.msg = l12))) fr (fr.want rfl rfl rfl) rfl (by first | decide | simp) (x_move rfl (fr.ev rfl)) ?_
        clear fr a; intro a fr
        refine fx_val (v := .bool true) fr (fr.want rfl rfl rfl) rfl (by first | decide | simp) (x_beql Try.underlying4 rfl (fr.ev rfl) (fr.ev rfl) (by simp)) ?_
        clear fr a; intro a fr
        refine fx_val (v := .bool true) fr rfl rfl (by first | decide | simp) (x_pick_t rfl (fr.ev rfl) (fr.ev rfl)) ?_
        clear fr a; intro a fr
        refine fx_val (v := .bool true) fr rfl rfl (by first | decide | simp) (x_move rfl (fr.ev rfl)) ?_
        clear fr a; intro a fr
        refine fx_val (v := .pointer (some ⟨b32, 0, none⟩)) fr (fr.want rfl rfl rfl) rfl (by first | decide | simp) (x_move rfl (fr.ev rfl)) ?_
        clear fr a; intro a fr
        refine fx_val (v := .pointer (some ⟨b9, 0, none⟩)) fr (fr.want rfl rfl rfl) rfl (by first | decide | simp) (x_move rfl (fr.ev rfl)) ?_
        clear fr a; intro a fr
        refine fx_call fr (fr.want rfl rfl rfl) rfl (by first | decide | simp) (x_call (vs := [.pointer (some ⟨b32, 0, none⟩), .pointer (some ⟨b9, 0, none⟩)]) rfl rfl ⟨(fr.ev rfl), (fr.ev rfl), trivial⟩ Try.func27 nm27 rfl) (same_xx H35 H174 (by omega) (by omega)) ?_
        clear fr a
        rintro v w264 ⟨rfl, hN265⟩ a fr
        replace hV := hV.new hN265
        replace B4 := B4.new hN265
        replace hW16 := hW16.new hN265
        replace B28 := B28.new hN265
        replace H35 := H35.new hN265
        replace V166 := V166.new hN265
        replace B45 := B45.new hN265
        replace H174 := H174.new hN265
        replace OL := OL.new hN265
        replace H197 := H197.new hN265
        replace H205 := H205.new hN265
        replace B213 := B213.new hN265
        replace V219 := V219.new hN265
        replace B226 := B226.new hN265
        replace H240 := H240.new hN265
        replace H250 := H250.new hN265
        replace hF := hF.trNew hN265
        rw [show (decide (most = most) && decide ((l12 : List Msg) = (sendL most l12 x.msg))) = decide ((sendL most l12 x.msg) = l12) from by simp [eq_comm]] at fr
        refine fx_val (v := .bool (decide (sendL most l12 x.msg = l12))) fr (fr.want rfl rfl rfl) rfl (by first | decide | simp) (x_move rfl (fr.ev rfl)) ?_
        clear fr a; intro a fr
        refine fx_val (v := .bool true) fr (fr.want rfl rfl rfl) rfl (by first | decide | simp) (x_beql Try.underlying4 rfl (fr.ev rfl) (fr.ev rfl) (by simp)) ?_
        clear fr a; intro a fr
        refine fx_val (v := .bool true) fr rfl rfl (by first | decide | simp) (x_pick_t rfl (fr.ev rfl) (fr.ev rfl)) ?_
        clear fr a; intro a fr
        refine fx_val (v := .bool true) fr rfl rfl (by first | decide | simp) (x_move rfl (fr.ev rfl)) ?_
        clear fr a; intro a fr
        refine fx_val (v := .pointer (some ⟨b194, 0, none⟩)) fr (fr.want rfl rfl rfl) rfl (by first | decide | simp) (x_move rfl (fr.ev rfl)) ?_
        clear fr a; intro a fr
        refine fx_val (v := .pointer (some ⟨b202, 0, none⟩)) fr (fr.want rfl rfl rfl) rfl (by first | decide | simp) (x_move rfl (fr.ev rfl)) ?_
        clear fr a; intro a fr
        refine fx_call fr (fr.want rfl rfl rfl) rfl (by first | decide | simp) (x_call (vs := [.pointer (some ⟨b194, 0, none⟩), .pointer (some ⟨b202, 0, none⟩)]) rfl rfl ⟨(fr.ev rfl), (fr.ev rfl), trivial⟩ Try.func27 nm27 rfl) (same_xx H197 H205 (by omega) (by omega)) ?_
        clear fr a
        rintro v w266 ⟨rfl, hN267⟩ a fr
        replace hV := hV.new hN267
        replace B4 := B4.new hN267
        replace hW16 := hW16.new hN267
        replace B28 := B28.new hN267
        replace H35 := H35.new hN267
        replace V166 := V166.new hN267
        replace B45 := B45.new hN267
        replace H174 := H174.new hN267
        replace OL := OL.new hN267
        replace H197 := H197.new hN267
        replace H205 := H205.new hN267
        replace B213 := B213.new hN267
        replace V219 := V219.new hN267
        replace B226 := B226.new hN267
        replace H240 := H240.new hN267
        replace H250 := H250.new hN267
        replace hF := hF.trNew hN267
        rw [show (decide ((Int.tmod most 1024 + 1) = most) && decide ((([]) : List Msg) = ([]))) = decide (Int.tmod most 1024 + 1 = most) from by simp] at fr
        refine fx_val (v := .int .i64 most) fr (fr.want rfl rfl rfl) rfl (by first | decide | simp) (x_move rfl (fr.ev rfl)) ?_
        clear fr a; intro a fr
        refine fx_val (v := .int .i64 (Int.tmod most 1024)) fr (fr.want rfl rfl rfl) rfl (by first | decide | simp) (x_rem rfl (fr.ev rfl) rfl (by omega) rfl) ?_
        clear fr a; intro a fr
        refine fx_val (v := .int .i64 (Int.tmod most 1024 + 1)) fr (fr.want rfl rfl rfl) rfl (by first | decide | simp) (x_add rfl (fr.ev rfl) rfl (i64w (r := Int.tmod most 1024 + 1) (by omega) (by omega))) ?_
        clear fr a; intro a fr
        refine fx_val (v := .int .i64 most) fr (fr.want rfl rfl rfl) rfl (by first | decide | simp) (x_move rfl (fr.ev rfl)) ?_
        clear fr a; intro a fr
        refine fx_val (v := .bool (decide (Int.tmod most 1024 + 1 = most))) fr (fr.want rfl rfl rfl) rfl (by first | decide | simp) (x_eql rfl (fr.ev rfl) (fr.ev rfl) rfl) ?_
        clear fr a; intro a fr
        refine fx_val (v := .bool true) fr (fr.want rfl rfl rfl) rfl (by first | decide | simp) (x_beql Try.underlying4 rfl (fr.ev rfl) (fr.ev rfl) (by simp)) ?_
        clear fr a; intro a fr
        refine fx_val (v := .bool true) fr rfl rfl (by first | decide | simp) (x_pick_t rfl (fr.ev rfl) (fr.ev rfl)) ?_
        clear fr a; intro a fr
        refine fx_val (v := .bool true) fr rfl rfl (by first | decide | simp) (x_move rfl (fr.ev rfl)) ?_
        clear fr a; intro a fr
        refine fx_call fr (fr.want rfl rfl rfl) rfl (by first | decide | simp) (x_call (vs := []) rfl rfl trivial Try.func13 nm13 rfl) (works_c _) ?_
        clear fr a
        rintro v w268 ⟨rfl, hN269⟩ a fr
        replace hV := hV.new hN269
        replace B4 := B4.new hN269
        replace hW16 := hW16.new hN269
        replace B28 := B28.new hN269
        replace H35 := H35.new hN269
        replace V166 := V166.new hN269
        replace B45 := B45.new hN269
        replace H174 := H174.new hN269
        replace OL := OL.new hN269
        replace H197 := H197.new hN269
        replace H205 := H205.new hN269
        replace B213 := B213.new hN269
        replace V219 := V219.new hN269
        replace B226 := B226.new hN269
        replace H240 := H240.new hN269
        replace H250 := H250.new hN269
        replace hF := hF.trNew hN269
        refine fx_val (v := .bool true) fr rfl rfl (by first | decide | simp) (x_pick_t rfl (fr.ev rfl) (fr.ev rfl)) ?_
        clear fr a; intro a fr
        refine fx_val (v := .bool true) fr rfl rfl (by first | decide | simp) (x_assign rfl (fr.ev rfl)) ?_
        clear fr a; intro a fr
        refine wpList_nil ?_
        refine fx_next ?_
        refine wp_ret ?_
        refine fx_ret fr [.tmp 6] [.bool true] rfl ⟨rfl, trivial⟩ rfl ?_
        exact ⟨_, rfl, rfl, hF⟩
end Go.Proofs.Ytdpkeabmfhnfiaa
