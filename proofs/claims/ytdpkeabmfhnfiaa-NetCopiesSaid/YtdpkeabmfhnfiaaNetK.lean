/-
  NetPlays, NetSends, NetDelivers. Printed by gen_k.py.
-/
import Derived.Test.YtdpkeabmfhnfiaaNetJ
namespace Go.Proofs.Ytdpkeabmfhnfiaa
open Go.RowKit

set_option maxRecDepth 100000 in
set_option maxHeartbeats 4000000 in
theorem plays_c {w : World} {P : Option Addr} {cp : Nat} {la : List NAct} (most : Int) (hV : View actE w P cp la) : Calls Try.prog 5 #[.int .i64 most, .slice P la.length cp] w (Ret fun v w' => v = .bool true ∧ New w w') := by
  have hF := Only.refl (fun _ => False) w
  refine fx_enter Try.func5 rfl (N := (36, [])) (T := [(0, .int .i64 most), (1, .slice P la.length cp)]) rfl (show 2 ≤ 36 by decide) ⟨rfl, rfl, trivial⟩ fun a fr => ?_
  refine wp_seq ?_
  refine wp_region_lit ?_  -- region 0
  refine fx_val (v := .bool false) fr rfl rfl (by first | decide | simp) (x_assign rfl rfl) ?_
  clear fr a; intro a fr
  refine wpList_nil ?_
  refine fx_next ?_
  refine wp_seq ?_
  refine wp_seq ?_
  refine wp_region_lit ?_  -- region 1
  refine fx_val (v := .int .i64 most) fr rfl rfl (by first | decide | simp) (x_move rfl (fr.ev rfl)) ?_
  clear fr a; intro a fr
  refine fx_val (v := .bool (decide (most < 1))) fr rfl rfl (by first | decide | simp) (x_lss rfl (fr.ev rfl) rfl rfl) ?_
  clear fr a; intro a fr
  refine fx_val (v := .bool (decide (most < 1))) fr rfl rfl (by first | decide | simp) (x_move rfl (fr.ev rfl)) ?_
  clear fr a; intro a fr
  refine fx_may (g := !(decide (most < 1))) (v := .int .i64 most) fr rfl rfl rfl (by simp) rfl (by first | decide | simp) (fun hg => x_move rfl (fr.ev rfl)) ?_
  clear fr a; intro a fr
  refine fx_may (g := !(decide (most < 1))) (v := .bool (decide (1024 < most))) fr rfl rfl rfl (by simp) rfl (by first | decide | simp) (fun hg => x_gtr rfl ((fr.ev rfl).trans (onlyIf_t hg)) rfl rfl) ?_
  clear fr a; intro a fr
  refine fx_val (v := .bool ((decide (most < 1)) || (decide (1024 < most)))) fr rfl rfl (by first | decide | simp) (x_pick_or rfl (fr.ev rfl) (fun _ => rfl) (fun hb => ((fr.ev rfl)).trans (onlyIf_t (by simp_all))) rfl) ?_
  clear fr a; intro a fr
  refine fx_val (v := .bool ((decide (most < 1)) || (decide (1024 < most)))) fr rfl rfl (by first | decide | simp) (x_move rfl (fr.ev rfl)) ?_
  clear fr a; intro a fr
  refine fx_may (g := !((decide (most < 1)) || (decide (1024 < most)))) (v := .slice P la.length cp) fr rfl rfl rfl (by simp) rfl (by first | decide | simp) (fun hg => x_move rfl (fr.ev rfl)) ?_
  clear fr a; intro a fr
  refine fx_may (g := !((decide (most < 1)) || (decide (1024 < most)))) (v := .int .i64 ((la.length : Nat) : Int)) fr rfl rfl rfl (by simp) rfl (by first | decide | simp) (fun hg => x_len Try.underlying33 rfl ((fr.ev rfl).trans (onlyIf_t hg))) ?_
  clear fr a; intro a fr
  refine fx_may (g := !((decide (most < 1)) || (decide (1024 < most)))) (v := .bool (decide (100 < ((la.length : Nat) : Int)))) fr rfl rfl rfl (by simp) rfl (by first | decide | simp) (fun hg => x_gtr rfl ((fr.ev rfl).trans (onlyIf_t hg)) rfl rfl) ?_
  clear fr a; intro a fr
  refine fx_val (v := .bool (((decide (most < 1)) || (decide (1024 < most))) || (decide (100 < ((la.length : Nat) : Int))))) fr rfl rfl (by first | decide | simp) (x_pick_or rfl (fr.ev rfl) (fun _ => rfl) (fun hb => ((fr.ev rfl)).trans (onlyIf_t (by simp_all))) rfl) ?_
  clear fr a; intro a fr
  refine wpList_nil ?_
  refine fx_next ?_
  refine fx_cond fr rfl (fun hc1 => ?_) (fun hc1 => ?_)
  · skip
    refine wp_seq ?_
    refine wp_region_lit ?_  -- region 2
    refine fx_call fr rfl rfl (by first | decide | simp) (x_call (vs := []) rfl rfl trivial Try.func13 nm13 rfl) (works_c _) ?_
    clear fr a
    rintro v w2 ⟨rfl, hN3⟩ a fr
    replace hV := hV.new hN3
    replace hF := hF.trNew hN3
    refine fx_val (v := .bool true) fr rfl rfl (by first | decide | simp) (x_assign rfl (fr.ev rfl)) ?_
    clear fr a; intro a fr
    refine wpList_nil ?_
    refine fx_next ?_
    refine wp_ret ?_
    refine fx_rt ?_
    refine fx_ret fr [.tmp 4] [.bool true] rfl ⟨rfl, trivial⟩ rfl ?_
    exact ⟨_, rfl, rfl, hF⟩
  · skip
    refine wp_skip ?_
    refine fx_next ?_
    refine wp_seq ?_
    have hq := hc1
    simp at hq
    refine wp_region_lit ?_  -- region 3
    refine fx_val (v := .int .i64 most) fr rfl rfl (by first | decide | simp) (x_move rfl (fr.ev rfl)) ?_
    clear fr a; intro a fr
    refine fx_val (v := .slice P la.length cp) fr rfl rfl (by first | decide | simp) (x_move rfl (fr.ev rfl)) ?_
    clear fr a; intro a fr
    refine fx_call fr rfl rfl (by first | decide | simp) (x_call (vs := [.int .i64 most, .slice P la.length cp]) rfl rfl ⟨(fr.ev rfl), (fr.ev rfl), trivial⟩ Try.func21 nm21 rfl) (played_c (hV) (by omega) (by omega) (by omega)) ?_
    clear fr a
    rintro v w18 ⟨b4, A5, cap6, l7, V8, vc9, rfl, H10, hW11, hl17, hb12, hA13, hV14, q15, q16, hN19⟩ a fr
    have ap_P_b4 : Apart P b4 := hV.apart hb12
    have g_b4 := Nat.le_trans hF.size hb12
    have ap2_P_A5 : Apart2 P A5 := (new_apart2 hA13 fun _ hg => hV.lt hg).symm
    have gA_A5 := gA_new hF hA13
    have ap2_P_V8 : Apart2 P V8 := (new_apart2 hV14 fun _ hg => hV.lt hg).symm
    have gA_V8 := gA_new hF hV14
    replace hV := hV.new hN19
    replace hF := hF.trNew hN19
    have ap_V8_b4 := q15
    have ap2_A5_V8 := q16
    refine fx_val (v := .tuple #[.pointer (some ⟨b4, 0, none⟩), .agg (#[.int .i64 most, .slice V8 l7.length vc9]), .bool true]) fr rfl rfl (by first | decide | simp) (x_move rfl (fr.ev rfl)) ?_
    clear fr a; intro a fr
    refine fx_val (v := .pointer (some ⟨b4, 0, none⟩)) fr rfl rfl (by first | decide | simp) (x_extract rfl (fr.ev rfl) rfl) ?_
    clear fr a; intro a fr
    refine fx_val (v := .agg (#[.int .i64 most, .slice V8 l7.length vc9])) fr rfl rfl (by first | decide | simp) (x_extract rfl (fr.ev rfl) rfl) ?_
    clear fr a; intro a fr
    refine fx_val (v := .bool true) fr rfl rfl (by first | decide | simp) (x_extract rfl (fr.ev rfl) rfl) ?_
    clear fr a; intro a fr
    refine fx_new fr rfl rfl (by first | decide | simp) (x_alloc (z := .agg (#[.int .i64 0, .slice none 0 0])) (cs := #[.int .i64 0, .slice none 0 0]) rfl (by kernel_rfl) rfl) ?_
    clear fr a
    intro b20 w21 hN22 B23 hb24 a fr
    have ap_P_b20 : Apart P b20 := hV.apart hb24
    have ne_b4_b20 : ¬ b4 = b20 := Nat.ne_of_lt (Nat.lt_of_lt_of_le H10.ltb hb24)
    have ap_A5_b20 : Apart A5 b20 := H10.apart hb24
    have ap_V8_b20 : Apart V8 b20 := hW11.apart hb24
    have g_b20 := Nat.le_trans hF.size hb24
    replace hV := hV.new hN22
    replace H10 := H10.new hN22
    replace hW11 := hW11.new hN22
    replace hF := hF.trNew hN22
    refine fx_val (v := .pointer (some ⟨b4, 0, none⟩)) fr rfl rfl (by first | decide | simp) (x_assign rfl (fr.ev rfl)) ?_
    clear fr a; intro a fr
    refine fx_storeS sz49 rfl rfl rfl (fr.ev rfl) (fr.ev rfl) (by simp [Value.oneCell']) B23 rfl rfl fun w25 hO26 hBq => ?_
    replace hV := hV.only hO26 (Apart.ne1 ap_P_b20)
    replace H10 := H10.only hO26 (by show ¬ b4 = b20; omega) (Apart.ne1 ap_A5_b20)
    replace hW11 := hW11.only hO26 (Apart.ne1 ap_V8_b20)
    replace hF := hF.loc hO26 (.inr g_b20)
    replace B23 := hBq
    clear hBq
    refine fx_val (v := .bool true) fr rfl rfl (by first | decide | simp) (x_assign rfl (fr.ev rfl)) ?_
    clear fr a; intro a fr
    refine wpList_nil ?_
    refine fx_next ?_
    refine wp_seq ?_
    refine wp_region_lit ?_  -- region 4
    refine fx_val (v := .bool true) fr rfl rfl (by first | decide | simp) (x_move rfl (fr.ev rfl)) ?_
    clear fr a; intro a fr
    refine fx_val (v := .bool true) fr rfl rfl (by first | decide | simp) (x_move rfl (fr.ev rfl)) ?_
    clear fr a; intro a fr
    refine fx_val (v := .pointer (some ⟨b4, 0, none⟩)) fr (fr.want rfl rfl rfl) rfl (by first | decide | simp) (x_move rfl (fr.ev rfl)) ?_
    clear fr a; intro a fr
    refine fx_val (v := .agg (#[.int .i64 most, .slice V8 l7.length vc9])) fr (fr.want rfl rfl rfl) rfl (by first | decide | simp) (x_loadS ag49 rfl (fr.ev rfl) rfl B23.range) ?_
    clear fr a; intro a fr
    refine fx_call fr (fr.want rfl rfl rfl) rfl (by first | decide | simp) (x_call (vs := [.pointer (some ⟨b4, 0, none⟩), .agg (#[.int .i64 most, .slice V8 l7.length vc9])]) rfl rfl ⟨(fr.ev rfl), (fr.ev rfl), trivial⟩ Try.func22 nm22 rfl) (is_c H10 hW11 (by omega) (by omega)) ?_
    clear fr a
    rintro v w27 ⟨rfl, hN28⟩ a fr
    replace hV := hV.new hN28
    replace H10 := H10.new hN28
    replace hW11 := hW11.new hN28
    replace B23 := B23.new hN28
    replace hF := hF.trNew hN28
    refine fx_val (v := .bool true) fr rfl rfl (by first | decide | simp) (x_pick_t rfl (fr.ev rfl) (fr.ev rfl)) ?_
    clear fr a; intro a fr
    refine fx_val (v := .bool true) fr rfl rfl (by first | decide | simp) (x_move rfl (fr.ev rfl)) ?_
    clear fr a; intro a fr
    refine fx_call fr (fr.want rfl rfl rfl) rfl (by first | decide | simp) (x_call (vs := []) rfl rfl trivial Try.func13 nm13 rfl) (works_c _) ?_
    clear fr a
    rintro v w29 ⟨rfl, hN30⟩ a fr
    replace hV := hV.new hN30
    replace H10 := H10.new hN30
    replace hW11 := hW11.new hN30
    replace B23 := B23.new hN30
    replace hF := hF.trNew hN30
    refine fx_val (v := .bool true) fr rfl rfl (by first | decide | simp) (x_pick_t rfl (fr.ev rfl) (fr.ev rfl)) ?_
    clear fr a; intro a fr
    refine fx_val (v := .bool true) fr rfl rfl (by first | decide | simp) (x_assign rfl (fr.ev rfl)) ?_
    clear fr a; intro a fr
    refine wpList_nil ?_
    refine fx_next ?_
    refine wp_ret ?_
    refine fx_ret fr [.tmp 4] [.bool true] rfl ⟨rfl, trivial⟩ rfl ?_
    exact ⟨_, rfl, rfl, hF⟩
set_option maxRecDepth 100000 in
set_option maxHeartbeats 4000000 in
theorem sends_c {w : World} {P : Option Addr} {cp : Nat} {la : List Msg} (most : Int) (hV : View msgE w P cp la) : Calls Try.prog 6 #[.int .i64 most, .slice P la.length cp] w (Ret fun v w' => v = .bool true ∧ New w w') := by
  have hF := Only.refl (fun _ => False) w
  refine fx_enter Try.func6 rfl (N := (66, [])) (T := [(0, .int .i64 most), (1, .slice P la.length cp)]) rfl (show 2 ≤ 66 by decide) ⟨rfl, rfl, trivial⟩ fun a fr => ?_
  refine wp_seq ?_
  refine wp_region_lit ?_  -- region 0
  refine fx_val (v := .bool false) fr rfl rfl (by first | decide | simp) (x_assign rfl rfl) ?_
  clear fr a; intro a fr
  refine wpList_nil ?_
  refine fx_next ?_
  refine wp_seq ?_
  refine wp_seq ?_
  refine wp_region_lit ?_  -- region 1
  refine fx_val (v := .int .i64 most) fr rfl rfl (by first | decide | simp) (x_move rfl (fr.ev rfl)) ?_
  clear fr a; intro a fr
  refine fx_val (v := .bool (decide (most < 1))) fr rfl rfl (by first | decide | simp) (x_lss rfl (fr.ev rfl) rfl rfl) ?_
  clear fr a; intro a fr
  refine fx_val (v := .bool (decide (most < 1))) fr rfl rfl (by first | decide | simp) (x_move rfl (fr.ev rfl)) ?_
  clear fr a; intro a fr
  refine fx_may (g := !(decide (most < 1))) (v := .int .i64 most) fr rfl rfl rfl (by simp) rfl (by first | decide | simp) (fun hg => x_move rfl (fr.ev rfl)) ?_
  clear fr a; intro a fr
  refine fx_may (g := !(decide (most < 1))) (v := .bool (decide (1024 < most))) fr rfl rfl rfl (by simp) rfl (by first | decide | simp) (fun hg => x_gtr rfl ((fr.ev rfl).trans (onlyIf_t hg)) rfl rfl) ?_
  clear fr a; intro a fr
  refine fx_val (v := .bool ((decide (most < 1)) || (decide (1024 < most)))) fr rfl rfl (by first | decide | simp) (x_pick_or rfl (fr.ev rfl) (fun _ => rfl) (fun hb => ((fr.ev rfl)).trans (onlyIf_t (by simp_all))) rfl) ?_
  clear fr a; intro a fr
  refine fx_val (v := .bool ((decide (most < 1)) || (decide (1024 < most)))) fr rfl rfl (by first | decide | simp) (x_move rfl (fr.ev rfl)) ?_
  clear fr a; intro a fr
  refine fx_may (g := !((decide (most < 1)) || (decide (1024 < most)))) (v := .slice P la.length cp) fr rfl rfl rfl (by simp) rfl (by first | decide | simp) (fun hg => x_move rfl (fr.ev rfl)) ?_
  clear fr a; intro a fr
  refine fx_may (g := !((decide (most < 1)) || (decide (1024 < most)))) (v := .int .i64 ((la.length : Nat) : Int)) fr rfl rfl rfl (by simp) rfl (by first | decide | simp) (fun hg => x_len Try.underlying38 rfl ((fr.ev rfl).trans (onlyIf_t hg))) ?_
  clear fr a; intro a fr
  refine fx_may (g := !((decide (most < 1)) || (decide (1024 < most)))) (v := .bool (decide (100 < ((la.length : Nat) : Int)))) fr rfl rfl rfl (by simp) rfl (by first | decide | simp) (fun hg => x_gtr rfl ((fr.ev rfl).trans (onlyIf_t hg)) rfl rfl) ?_
  clear fr a; intro a fr
  refine fx_val (v := .bool (((decide (most < 1)) || (decide (1024 < most))) || (decide (100 < ((la.length : Nat) : Int))))) fr rfl rfl (by first | decide | simp) (x_pick_or rfl (fr.ev rfl) (fun _ => rfl) (fun hb => ((fr.ev rfl)).trans (onlyIf_t (by simp_all))) rfl) ?_
  clear fr a; intro a fr
  refine wpList_nil ?_
  refine fx_next ?_
  refine fx_cond fr rfl (fun hc1 => ?_) (fun hc1 => ?_)
  · skip
    refine wp_seq ?_
    refine wp_region_lit ?_  -- region 2
    refine fx_call fr rfl rfl (by first | decide | simp) (x_call (vs := []) rfl rfl trivial Try.func13 nm13 rfl) (works_c _) ?_
    clear fr a
    rintro v w2 ⟨rfl, hN3⟩ a fr
    replace hV := hV.new hN3
    replace hF := hF.trNew hN3
    refine fx_val (v := .bool true) fr rfl rfl (by first | decide | simp) (x_assign rfl (fr.ev rfl)) ?_
    clear fr a; intro a fr
    refine wpList_nil ?_
    refine fx_next ?_
    refine wp_ret ?_
    refine fx_rt ?_
    refine fx_ret fr [.tmp 4] [.bool true] rfl ⟨rfl, trivial⟩ rfl ?_
    exact ⟨_, rfl, rfl, hF⟩
  · skip
    refine wp_skip ?_
    refine fx_next ?_
    refine wp_seq ?_
    have hq := hc1
    simp at hq
    refine wp_region_lit ?_  -- region 3
    refine fx_val (v := .int .i64 most) fr rfl rfl (by first | decide | simp) (x_move rfl (fr.ev rfl)) ?_
    clear fr a; intro a fr
    refine fx_call fr rfl rfl (by first | decide | simp) (x_call (vs := [.int .i64 most]) rfl rfl ⟨(fr.ev rfl), trivial⟩ Try.func14 nm14 rfl) (new_yes most _ (by omega) (by omega)) ?_
    clear fr a
    rintro v w10 ⟨b4, A5, cap6, rfl, H7, hb8, hA9, hN11⟩ a fr
    have ap_P_b4 : Apart P b4 := hV.apart hb8
    have g_b4 := Nat.le_trans hF.size hb8
    have ap2_P_A5 : Apart2 P A5 := (new_apart2 hA9 fun _ hg => hV.lt hg).symm
    have gA_A5 := gA_new hF hA9
    replace hV := hV.new hN11
    replace hF := hF.trNew hN11
    refine fx_val (v := .tuple #[.pointer (some ⟨b4, 0, none⟩), .int .i64 0]) fr rfl rfl (by first | decide | simp) (x_move rfl (fr.ev rfl)) ?_
    clear fr a; intro a fr
    refine fx_val (v := .pointer (some ⟨b4, 0, none⟩)) fr rfl rfl (by first | decide | simp) (x_extract rfl (fr.ev rfl) rfl) ?_
    clear fr a; intro a fr
    refine fx_val (v := .int .i64 0) fr rfl rfl (by first | decide | simp) (x_extract rfl (fr.ev rfl) rfl) ?_
    clear fr a; intro a fr
    refine fx_val (v := .pointer (some ⟨b4, 0, none⟩)) fr rfl rfl (by first | decide | simp) (x_assign rfl (fr.ev rfl)) ?_
    clear fr a; intro a fr
    refine fx_val (v := .int .i64 0) fr rfl rfl (by first | decide | simp) (x_assign rfl (fr.ev rfl)) ?_
    clear fr a; intro a fr
    refine wpList_nil ?_
    refine fx_next ?_
    refine wp_seq ?_
    refine wp_region_lit ?_  -- region 4
    refine fx_val (v := .int .i64 most) fr rfl rfl (by first | decide | simp) (x_move rfl (fr.ev rfl)) ?_
    clear fr a; intro a fr
    refine fx_val (v := .agg (#[.int .i64 most, .slice none 0 0])) fr rfl rfl (by first | decide | simp) (x_build (cells := #[.int .i64 most, .slice none 0 0]) rfl (by simp only [List.map_toArray, List.map_cons, List.map_nil, show a.eval (.tmp 28) = .int .i64 most from fr.ev rfl]; kernel_rfl)) ?_
    clear fr a; intro a fr
    refine fx_new fr rfl rfl (by first | decide | simp) (x_alloc (z := .agg (#[.int .i64 0, .slice none 0 0])) (cs := #[.int .i64 0, .slice none 0 0]) rfl (by kernel_rfl) rfl) ?_
    clear fr a
    intro b12 w13 hN14 B15 hb16 a fr
    have ap_P_b12 : Apart P b12 := hV.apart hb16
    have ne_b4_b12 : ¬ b4 = b12 := Nat.ne_of_lt (Nat.lt_of_lt_of_le H7.ltb hb16)
    have ap_A5_b12 : Apart A5 b12 := H7.apart hb16
    have g_b12 := Nat.le_trans hF.size hb16
    replace hV := hV.new hN14
    replace H7 := H7.new hN14
    replace hF := hF.trNew hN14
    refine fx_storeS sz49 rfl rfl rfl (fr.ev rfl) (fr.ev rfl) (by simp [Value.oneCell']) B15 rfl rfl fun w17 hO18 hBq => ?_
    replace hV := hV.only hO18 (Apart.ne1 ap_P_b12)
    replace H7 := H7.only hO18 (by show ¬ b4 = b12; omega) (Apart.ne1 ap_A5_b12)
    replace hF := hF.loc hO18 (.inr g_b12)
    replace B15 := hBq
    clear hBq
    refine wpList_nil ?_
    refine fx_next ?_
    refine wp_seq ?_
    refine wp_seq ?_
    refine wp_region_lit ?_  -- region 5
    refine fx_val (v := .int .i64 0) fr rfl rfl (by first | decide | simp) (x_assign rfl rfl) ?_
    clear fr a; intro a fr
    refine wpList_nil ?_
    refine fx_next ?_
    refine wp_block ?_
    refine fx_loop (fun nM a wL => ∃ A : Option Addr, ∃ cap : Nat, ∃ l : List Msg, ∃ V : Option Addr, ∃ vc : Nat, ∃ i : Nat, nM = la.length - i ∧ Fr (66, []) [(0, .int .i64 most), (1, .slice P la.length cp), (4, .bool false), (5, .pointer (some ⟨b4, 0, none⟩)), (6, .int .i64 0), (7, .pointer (some ⟨b12, 0, none⟩)), (8, .int .i64 ((i : Nat) : Int))] a ∧ Only (fun _ => False) w wL ∧ View msgE wL P cp la ∧ NetAt wL b4 A cap most l ∧ Blk wL b12 49 #[.int .i64 most, .slice V l.length vc] ∧ View msgE wL V vc l ∧ i ≤ la.length ∧ l.length ≤ i ∧ (Apart2 P A) ∧ (Apart A b12) ∧ (Apart V b4) ∧ (Apart2 A V) ∧ (Apart V b12) ∧ (∀ g, inA A g → (fun _ => False) g ∨ w.heap.size ≤ g) ∧ (∀ g, inA V g → (fun _ => False) g ∨ w.heap.size ≤ g)) (n0 := _) ⟨A5, cap6, [], none, 0, 0, rfl, fr.sub ⟨rfl, rfl, rfl, rfl, rfl, rfl, rfl, trivial⟩, hF, hV, H7, B15, View.nil, by omega, Nat.le_refl _, ap2_P_A5, ap_A5_b12, (apart_none b4), (fun k _ h => apart_none k h), (apart_none b12), gA_A5, gA_none⟩ ?_
    rintro n20 a w19 ⟨A, cap, l, V, vc, i, rfl, fr, hF, hV, H, Bw, hW, hi, hli, ap2_P_A, ap_A_b12, ap_V_b4, ap2_A_V, ap_V_b12, gA_A, gA_V⟩
    refine wp_seq ?_
    refine wp_seq ?_
    refine wp_region_lit ?_  -- region 6
    refine fx_val (v := .int .i64 ((i : Nat) : Int)) fr rfl rfl (by first | decide | simp) (x_move rfl (fr.ev rfl)) ?_
    clear fr a; intro a fr
    refine fx_val (v := .slice P la.length cp) fr rfl rfl (by first | decide | simp) (x_move rfl (fr.ev rfl)) ?_
    clear fr a; intro a fr
    refine fx_val (v := .int .i64 ((la.length : Nat) : Int)) fr rfl rfl (by first | decide | simp) (x_len Try.underlying38 rfl (fr.ev rfl)) ?_
    clear fr a; intro a fr
    refine fx_val (v := .bool (decide (((i : Nat) : Int) < ((la.length : Nat) : Int)))) fr rfl rfl (by first | decide | simp) (x_lss rfl (fr.ev rfl) (fr.ev rfl) rfl) ?_
    clear fr a; intro a fr
    refine wpList_nil ?_
    refine fx_next ?_
    refine fx_cond fr rfl (fun hc21 => ?_) (fun hc21 => ?_)
    · skip
      have hc21 := of_decide_eq_true hc21
      refine wp_skip ?_
      refine fx_next ?_
      refine wp_seq ?_
      refine wp_block ?_
      refine wp_seq ?_
      refine fx_heldT (n := 11) (k := 11) (fun w => View msgE w P cp la ∧ NetAt w b4 A cap most l ∧ Blk w b12 49 #[.int .i64 most, .slice V l.length vc] ∧ View msgE w V vc l ∧ True) (by kernel_rfl) (by kernel_rfl) rfl ?_  -- region 8
      intro w22 hN23
      replace hV := hV.new hN23
      replace H := H.new hN23
      replace Bw := Bw.new hN23
      replace hW := hW.new hN23
      replace hF := hF.trNew hN23
      refine fx_take (i := 0) (v := .agg (#[.int .i64 most, .slice V l.length vc])) fr rfl (by kernel_rfl) rfl rfl (by first | decide | simp) (fun _ _ _ h => h) (fun _ ⟨hV, H, Bw, hW, _⟩ => x_loadS ag49 rfl (fr.ev rfl) rfl Bw.range) ⟨hV, H, Bw, hW, trivial⟩ ?_
      clear fr a; intro a fr
      refine fx_take (i := 1) (v := .slice P la.length cp) fr rfl (by kernel_rfl) rfl rfl (by first | decide | simp) (fun _ _ _ h => h) (fun _ ⟨hV, H, Bw, hW, _⟩ => x_move rfl (fr.ev rfl)) ⟨hV, H, Bw, hW, trivial⟩ ?_
      clear fr a; intro a fr
      refine fx_take (i := 2) (v := .int .i64 ((i : Nat) : Int)) fr rfl (by kernel_rfl) rfl rfl (by first | decide | simp) (fun _ _ _ h => h) (fun _ ⟨hV, H, Bw, hW, _⟩ => x_move rfl (fr.ev rfl)) ⟨hV, H, Bw, hW, trivial⟩ ?_
      clear fr a; intro a fr
      obtain ⟨g24, o25, hA26⟩ := (hV).some_ (by omega)
      refine fx_take (i := 3) (v := .pointer (some ⟨g24, o25 + i * 20, none⟩)) fr rfl (by kernel_rfl) rfl rfl (by first | decide | simp) (fun _ _ _ h => h) (fun _ ⟨hV, H, Bw, hW, _⟩ => x_indexV Try.underlying38 sz26 rfl (fr.ev rfl) hA26 (fr.ev rfl) (by omega) rfl) ⟨hV, H, Bw, hW, trivial⟩ ?_
      clear fr a; intro a fr
      refine fx_take (i := 4) (v := .agg (msgE.arr (la.getD i msg0))) fr rfl (by kernel_rfl) rfl rfl (by first | decide | simp) (fun _ _ _ h => h) (fun _ ⟨hV, H, Bw, hW, _⟩ => x_loadE (E := msgE) ag26 rfl rfl (fr.ev rfl) ((hV).elem hA26 i msg0 (by omega))) ⟨hV, H, Bw, hW, trivial⟩ ?_
      clear fr a; intro a fr
      refine fx_two (i := 5) (j := 9) (by kernel_rfl) (fx_op rfl ?_) (fx_op rfl ?_)
      · skip
        refine fx_call fr rfl rfl (by first | decide | simp) (x_call (vs := [.agg (#[.int .i64 most, .slice V l.length vc]), .agg (msgE.arr (la.getD i msg0))]) rfl rfl ⟨(fr.ev rfl), (fr.ev rfl), trivial⟩ Try.func23 nm23 rfl) (rsend_c (la.getD i msg0) hW (by omega)) ?_
        clear fr a
        rintro v w31 ⟨A27, cap28, rfl, V29, mv30, hN32⟩ a fr
        have ap_A27_b4 : Apart A27 b4 := moved_apart mv30 ap_V_b4 H.ltb
        have ap2_A27_A : Apart2 A27 A := moved_apart2 mv30 ap2_A_V.symm fun _ hg => H.lt hg
        have ap_A27_b12 : Apart A27 b12 := moved_apart mv30 ap_V_b12 Bw.lt
        have gA_A27 := gA_moved hF mv30 gA_V
        replace hV := hV.new hN32
        replace H := H.new hN32
        replace Bw := Bw.new hN32
        replace hW := hW.new hN32
        replace hF := hF.trNew hN32
        refine wpList_nil ?_
        refine ⟨⟨hV, H, Bw, hW, trivial⟩, ?_⟩
        refine fx_take (i := 6) (v := .tuple #[.agg (#[.int .i64 most, .slice A27 ((sendL most l (la.getD i msg0)).length) cap28]), .int .i64 (sendE most l (la.getD i msg0))]) fr rfl (by kernel_rfl) rfl rfl (by first | decide | simp) (fun _ _ _ h => h) (fun _ ⟨hV, H, Bw, hW, _⟩ => x_move rfl (fr.ev rfl)) ⟨hV, H, Bw, hW, trivial⟩ ?_
        clear fr a; intro a fr
        refine fx_take (i := 7) (v := .agg (#[.int .i64 most, .slice A27 ((sendL most l (la.getD i msg0)).length) cap28])) fr rfl (by kernel_rfl) rfl rfl (by first | decide | simp) (fun _ _ _ h => h) (fun _ ⟨hV, H, Bw, hW, _⟩ => x_extract rfl (fr.ev rfl) rfl) ⟨hV, H, Bw, hW, trivial⟩ ?_
        clear fr a; intro a fr
        refine fx_take (i := 8) (v := .int .i64 (sendE most l (la.getD i msg0))) fr rfl (by kernel_rfl) rfl rfl (by first | decide | simp) (fun _ _ _ h => h) (fun _ ⟨hV, H, Bw, hW, _⟩ => x_extract rfl (fr.ev rfl) rfl) ⟨hV, H, Bw, hW, trivial⟩ ?_
        clear fr a; intro a fr
        refine fx_one (i := 9) (by kernel_rfl) (fx_op rfl ?_)
        refine fx_new fr rfl rfl (by first | decide | simp) (x_alloc (z := .agg (#[.int .i64 0, .slice none 0 0])) (cs := #[.int .i64 0, .slice none 0 0]) rfl (by kernel_rfl) rfl) ?_
        clear fr a
        intro b33 w34 hN35 B36 hb37 a fr
        have ap_P_b33 : Apart P b33 := hV.apart hb37
        have ne_b4_b33 : ¬ b4 = b33 := Nat.ne_of_lt (Nat.lt_of_lt_of_le H.ltb hb37)
        have ap_A_b33 : Apart A b33 := H.apart hb37
        have ne_b12_b33 : ¬ b12 = b33 := Nat.ne_of_lt (Nat.lt_of_lt_of_le Bw.lt hb37)
        have ap_V_b33 : Apart V b33 := hW.apart hb37
        have ap_A27_b33 : Apart A27 b33 := V29.apart hb37
        have g_b33 := Nat.le_trans hF.size hb37
        replace hV := hV.new hN35
        replace H := H.new hN35
        replace Bw := Bw.new hN35
        replace hW := hW.new hN35
        replace V29 := V29.new hN35
        replace hF := hF.trNew hN35
        refine wpList_nil ?_
        refine ⟨⟨hV, H, Bw, hW, trivial⟩, ?_⟩
        refine fx_one (i := 10) (by kernel_rfl) (fx_op rfl ?_)
        refine fx_storeS sz49 rfl rfl rfl (fr.ev rfl) (fr.ev rfl) (by simp [Value.oneCell']) B36 rfl rfl fun w38 hO39 hBq => ?_
        replace hV := hV.only hO39 (Apart.ne1 ap_P_b33)
        replace H := H.only hO39 (by show ¬ b4 = b33; omega) (Apart.ne1 ap_A_b33)
        replace Bw := Bw.only hO39 (by show ¬ b12 = b33; omega)
        replace hW := hW.only hO39 (Apart.ne1 ap_V_b33)
        replace V29 := V29.only hO39 (Apart.ne1 ap_A27_b33)
        replace hF := hF.loc hO39 (.inr g_b33)
        replace B36 := hBq
        clear hBq
        refine wpList_nil ?_
        refine ⟨⟨hV, H, Bw, hW, trivial⟩, ?_⟩
        refine fx_hdone (by kernel_rfl) ?_
        refine fx_tail ?_
        refine fx_val (v := .int .i64 (sendE most l (la.getD i msg0))) fr rfl rfl (by first | decide | simp) (x_assign rfl (fr.ev rfl)) ?_
        clear fr a; intro a fr
        refine wpList_nil ?_
        refine fx_next ?_
        refine wp_seq ?_
        refine wp_region_lit ?_  -- region 9
        refine fx_val (v := .agg (#[.int .i64 most, .slice A27 ((sendL most l (la.getD i msg0)).length) cap28])) fr rfl rfl (by first | decide | simp) (x_loadS ag49 rfl (fr.ev rfl) rfl B36.range) ?_
        clear fr a; intro a fr
        refine fx_storeS sz49 rfl rfl rfl (fr.ev rfl) (fr.ev rfl) (by simp [Value.oneCell']) Bw rfl rfl fun w40 hO41 hBq => ?_
        replace hV := hV.only hO41 (Apart.ne1 ap_P_b12)
        replace H := H.only hO41 (by show ¬ b4 = b12; omega) (Apart.ne1 ap_A_b12)
        replace hW := hW.only hO41 (Apart.ne1 ap_V_b12)
        replace V29 := V29.only hO41 (Apart.ne1 ap_A27_b12)
        replace B36 := B36.only hO41 (by show ¬ b33 = b12; omega)
        replace hF := hF.loc hO41 (.inr g_b12)
        replace Bw := hBq
        clear hBq
        refine wpList_nil ?_
        refine fx_next ?_
        refine wp_seq ?_
        refine wp_region_lit ?_  -- region 10
        refine fx_val (v := .pointer (some ⟨b4, 0, none⟩)) fr rfl rfl (by first | decide | simp) (x_move rfl (fr.ev rfl)) ?_
        clear fr a; intro a fr
        refine fx_val (v := .slice P la.length cp) fr rfl rfl (by first | decide | simp) (x_move rfl (fr.ev rfl)) ?_
        clear fr a; intro a fr
        refine fx_val (v := .int .i64 ((i : Nat) : Int)) fr rfl rfl (by first | decide | simp) (x_move rfl (fr.ev rfl)) ?_
        clear fr a; intro a fr
        refine fx_val (v := .pointer (some ⟨g24, o25 + i * 20, none⟩)) fr rfl rfl (by first | decide | simp) (x_indexV Try.underlying38 sz26 rfl (fr.ev rfl) hA26 (fr.ev rfl) (by omega) rfl) ?_
        clear fr a; intro a fr
        refine fx_val (v := .agg (msgE.arr (la.getD i msg0))) fr rfl rfl (by first | decide | simp) (x_loadE (E := msgE) ag26 rfl rfl (fr.ev rfl) ((hV).elem hA26 i msg0 (by omega))) ?_
        clear fr a; intro a fr
        refine fx_call fr rfl rfl (by first | decide | simp) (x_call (vs := [.pointer (some ⟨b4, 0, none⟩), .agg (msgE.arr (la.getD i msg0))]) rfl rfl ⟨(fr.ev rfl), (fr.ev rfl), trivial⟩ Try.func15 nm15 rfl) (send_c (la.getD i msg0) H (by omega) (by omega)) ?_
        clear fr a
        rintro v w46 ⟨rfl, A42, cap43, H44, hN47, mv45⟩ a fr
        have ap2_A42_P : Apart2 A42 P := moved_apart2 mv45 ap2_P_A.symm fun _ hg => hV.lt hg
        have ap2_A42_V : Apart2 A42 V := moved_apart2 mv45 ap2_A_V fun _ hg => hW.lt hg
        have ap2_A42_A27 : Apart2 A42 A27 := moved_apart2 mv45 ap2_A27_A.symm fun _ hg => V29.lt hg
        have ap_A42_b33 : Apart A42 b33 := moved_apart mv45 ap_A_b33 B36.lt
        have ap_A42_b12 : Apart A42 b12 := moved_apart mv45 ap_A_b12 Bw.lt
        have gA_A42 := gA_moved hF mv45 gA_A
        replace hV := hV.only hN47 (fun g hg h => h.elim ((Apart.ne1 ap_P_b4) g hg) ((fun g h1 h2 => ap2_P_A g h1 h2) g hg))
        replace hW := hW.only hN47 (fun g hg h => h.elim ((Apart.ne1 ap_V_b4) g hg) ((fun g h1 h2 => ap2_A_V.symm g h1 h2) g hg))
        replace V29 := V29.only hN47 (fun g hg h => h.elim ((Apart.ne1 ap_A27_b4) g hg) ((fun g h1 h2 => ap2_A27_A g h1 h2) g hg))
        replace B36 := B36.only hN47 (fun h => h.elim (by show ¬ b33 = b4; omega) ap_A_b33)
        replace Bw := Bw.only hN47 (fun h => h.elim (by show ¬ b12 = b4; omega) ap_A_b12)
        replace hF := hF.loc2 hN47 (.inr g_b4) gA_A
        clear H
        refine fx_call fr rfl rfl (by first | decide | simp) (x_call (vs := [.int .i64 (sendE most l (la.getD i msg0))]) rfl rfl ⟨(fr.ev rfl), trivial⟩ Try.func10 nm10 rfl) (num_c (sendE most l (la.getD i msg0)) _) ?_
        clear fr a
        rintro v _ ⟨rfl, rfl⟩ a fr
        refine fx_val (v := .int .i64 (sendE most l (la.getD i msg0))) fr rfl rfl (by first | decide | simp) (x_move rfl (fr.ev rfl)) ?_
        clear fr a; intro a fr
        refine fx_val (v := .bool false) fr rfl rfl (by first | decide | simp) (x_neq rfl (fr.ev rfl) (fr.ev rfl) (by simp)) ?_
        clear fr a; intro a fr
        refine wpList_nil ?_
        refine fx_next ?_
        refine fx_cond_f fr rfl ?_
        refine wp_skip ?_
        refine fx_blk ?_
        refine fx_next ?_
        refine wp_region_lit ?_  -- region 7
        refine fx_val (v := .int .i64 ((i : Nat) : Int)) fr rfl rfl (by first | decide | simp) (x_move rfl (fr.ev rfl)) ?_
        clear fr a; intro a fr
        refine fx_val (v := .int .i64 ((i + 1 : Nat) : Int)) fr rfl rfl (by first | decide | simp) (x_add rfl (fr.ev rfl) rfl (i64w (r := ((i + 1 : Nat) : Int)) (by omega) (by omega))) ?_
        clear fr a; intro a fr
        refine fx_val (v := .int .i64 ((i + 1 : Nat) : Int)) fr rfl rfl (by first | decide | simp) (x_assign rfl (fr.ev rfl)) ?_
        clear fr a; intro a fr
        refine wpList_nil ?_
        refine fx_next ?_
        exact ⟨_, by omega, A42, cap43, (sendL most l (la.getD i msg0)), A27, cap28, (i + 1), rfl, fr.sub ⟨rfl, rfl, rfl, rfl, rfl, rfl, rfl, trivial⟩, hF, hV, H44, Bw, V29, by omega, (by have := sendL_le most l (la.getD i msg0); omega), ap2_A42_P.symm, ap_A42_b12, ap_A27_b4, ap2_A42_A27, ap_A27_b12, gA_A42, gA_A27⟩
      · skip
        refine fx_new fr rfl rfl (by first | decide | simp) (x_alloc (z := .agg (#[.int .i64 0, .slice none 0 0])) (cs := #[.int .i64 0, .slice none 0 0]) rfl (by kernel_rfl) rfl) ?_
        clear fr a
        intro b50 w51 hN52 B53 hb54 a fr
        have ap_P_b50 : Apart P b50 := hV.apart hb54
        have ne_b4_b50 : ¬ b4 = b50 := Nat.ne_of_lt (Nat.lt_of_lt_of_le H.ltb hb54)
        have ap_A_b50 : Apart A b50 := H.apart hb54
        have ne_b12_b50 : ¬ b12 = b50 := Nat.ne_of_lt (Nat.lt_of_lt_of_le Bw.lt hb54)
        have ap_V_b50 : Apart V b50 := hW.apart hb54
        have g_b50 := Nat.le_trans hF.size hb54
        replace hV := hV.new hN52
        replace H := H.new hN52
        replace Bw := Bw.new hN52
        replace hW := hW.new hN52
        replace hF := hF.trNew hN52
        refine wpList_nil ?_
        refine ⟨⟨hV, H, Bw, hW, trivial⟩, ?_⟩
        refine fx_one (i := 5) (by kernel_rfl) (fx_op rfl ?_)
        refine fx_call fr rfl rfl (by first | decide | simp) (x_call (vs := [.agg (#[.int .i64 most, .slice V l.length vc]), .agg (msgE.arr (la.getD i msg0))]) rfl rfl ⟨(fr.ev rfl), (fr.ev rfl), trivial⟩ Try.func23 nm23 rfl) (rsend_c (la.getD i msg0) hW (by omega)) ?_
        clear fr a
        rintro v w59 ⟨A55, cap56, rfl, V57, mv58, hN60⟩ a fr
        have ap_A55_b4 : Apart A55 b4 := moved_apart mv58 ap_V_b4 H.ltb
        have ap2_A55_A : Apart2 A55 A := moved_apart2 mv58 ap2_A_V.symm fun _ hg => H.lt hg
        have ap_A55_b12 : Apart A55 b12 := moved_apart mv58 ap_V_b12 Bw.lt
        have ap_A55_b50 : Apart A55 b50 := moved_apart mv58 ap_V_b50 B53.lt
        have gA_A55 := gA_moved hF mv58 gA_V
        replace hV := hV.new hN60
        replace H := H.new hN60
        replace Bw := Bw.new hN60
        replace hW := hW.new hN60
        replace B53 := B53.new hN60
        replace hF := hF.trNew hN60
        refine wpList_nil ?_
        refine ⟨⟨hV, H, Bw, hW, trivial⟩, ?_⟩
        refine fx_take (i := 6) (v := .tuple #[.agg (#[.int .i64 most, .slice A55 ((sendL most l (la.getD i msg0)).length) cap56]), .int .i64 (sendE most l (la.getD i msg0))]) fr rfl (by kernel_rfl) rfl rfl (by first | decide | simp) (fun _ _ _ h => h) (fun _ ⟨hV, H, Bw, hW, _⟩ => x_move rfl (fr.ev rfl)) ⟨hV, H, Bw, hW, trivial⟩ ?_
        clear fr a; intro a fr
        refine fx_take (i := 7) (v := .agg (#[.int .i64 most, .slice A55 ((sendL most l (la.getD i msg0)).length) cap56])) fr rfl (by kernel_rfl) rfl rfl (by first | decide | simp) (fun _ _ _ h => h) (fun _ ⟨hV, H, Bw, hW, _⟩ => x_extract rfl (fr.ev rfl) rfl) ⟨hV, H, Bw, hW, trivial⟩ ?_
        clear fr a; intro a fr
        refine fx_take (i := 8) (v := .int .i64 (sendE most l (la.getD i msg0))) fr rfl (by kernel_rfl) rfl rfl (by first | decide | simp) (fun _ _ _ h => h) (fun _ ⟨hV, H, Bw, hW, _⟩ => x_extract rfl (fr.ev rfl) rfl) ⟨hV, H, Bw, hW, trivial⟩ ?_
        clear fr a; intro a fr
        refine fx_one (i := 10) (by kernel_rfl) (fx_op rfl ?_)
        refine fx_storeS sz49 rfl rfl rfl (fr.ev rfl) (fr.ev rfl) (by simp [Value.oneCell']) B53 rfl rfl fun w61 hO62 hBq => ?_
        replace hV := hV.only hO62 (Apart.ne1 ap_P_b50)
        replace H := H.only hO62 (by show ¬ b4 = b50; omega) (Apart.ne1 ap_A_b50)
        replace Bw := Bw.only hO62 (by show ¬ b12 = b50; omega)
        replace hW := hW.only hO62 (Apart.ne1 ap_V_b50)
        replace V57 := V57.only hO62 (Apart.ne1 ap_A55_b50)
        replace hF := hF.loc hO62 (.inr g_b50)
        replace B53 := hBq
        clear hBq
        refine wpList_nil ?_
        refine ⟨⟨hV, H, Bw, hW, trivial⟩, ?_⟩
        refine fx_hdone (by kernel_rfl) ?_
        refine fx_tail ?_
        refine fx_val (v := .int .i64 (sendE most l (la.getD i msg0))) fr rfl rfl (by first | decide | simp) (x_assign rfl (fr.ev rfl)) ?_
        clear fr a; intro a fr
        refine wpList_nil ?_
        refine fx_next ?_
        refine wp_seq ?_
        refine wp_region_lit ?_  -- region 9
        refine fx_val (v := .agg (#[.int .i64 most, .slice A55 ((sendL most l (la.getD i msg0)).length) cap56])) fr rfl rfl (by first | decide | simp) (x_loadS ag49 rfl (fr.ev rfl) rfl B53.range) ?_
        clear fr a; intro a fr
        refine fx_storeS sz49 rfl rfl rfl (fr.ev rfl) (fr.ev rfl) (by simp [Value.oneCell']) Bw rfl rfl fun w63 hO64 hBq => ?_
        replace hV := hV.only hO64 (Apart.ne1 ap_P_b12)
        replace H := H.only hO64 (by show ¬ b4 = b12; omega) (Apart.ne1 ap_A_b12)
        replace hW := hW.only hO64 (Apart.ne1 ap_V_b12)
        replace V57 := V57.only hO64 (Apart.ne1 ap_A55_b12)
        replace B53 := B53.only hO64 (by show ¬ b50 = b12; omega)
        replace hF := hF.loc hO64 (.inr g_b12)
        replace Bw := hBq
        clear hBq
        refine wpList_nil ?_
        refine fx_next ?_
        refine wp_seq ?_
        refine wp_region_lit ?_  -- region 10
        refine fx_val (v := .pointer (some ⟨b4, 0, none⟩)) fr rfl rfl (by first | decide | simp) (x_move rfl (fr.ev rfl)) ?_
        clear fr a; intro a fr
        refine fx_val (v := .slice P la.length cp) fr rfl rfl (by first | decide | simp) (x_move rfl (fr.ev rfl)) ?_
        clear fr a; intro a fr
        refine fx_val (v := .int .i64 ((i : Nat) : Int)) fr rfl rfl (by first | decide | simp) (x_move rfl (fr.ev rfl)) ?_
        clear fr a; intro a fr
        refine fx_val (v := .pointer (some ⟨g24, o25 + i * 20, none⟩)) fr rfl rfl (by first | decide | simp) (x_indexV Try.underlying38 sz26 rfl (fr.ev rfl) hA26 (fr.ev rfl) (by omega) rfl) ?_
        clear fr a; intro a fr
        refine fx_val (v := .agg (msgE.arr (la.getD i msg0))) fr rfl rfl (by first | decide | simp) (x_loadE (E := msgE) ag26 rfl rfl (fr.ev rfl) ((hV).elem hA26 i msg0 (by omega))) ?_
        clear fr a; intro a fr
        refine fx_call fr rfl rfl (by first | decide | simp) (x_call (vs := [.pointer (some ⟨b4, 0, none⟩), .agg (msgE.arr (la.getD i msg0))]) rfl rfl ⟨(fr.ev rfl), (fr.ev rfl), trivial⟩ Try.func15 nm15 rfl) (send_c (la.getD i msg0) H (by omega) (by omega)) ?_
        clear fr a
        rintro v w69 ⟨rfl, A65, cap66, H67, hN70, mv68⟩ a fr
        have ap2_A65_P : Apart2 A65 P := moved_apart2 mv68 ap2_P_A.symm fun _ hg => hV.lt hg
        have ap2_A65_V : Apart2 A65 V := moved_apart2 mv68 ap2_A_V fun _ hg => hW.lt hg
        have ap2_A65_A55 : Apart2 A65 A55 := moved_apart2 mv68 ap2_A55_A.symm fun _ hg => V57.lt hg
        have ap_A65_b50 : Apart A65 b50 := moved_apart mv68 ap_A_b50 B53.lt
        have ap_A65_b12 : Apart A65 b12 := moved_apart mv68 ap_A_b12 Bw.lt
        have gA_A65 := gA_moved hF mv68 gA_A
        replace hV := hV.only hN70 (fun g hg h => h.elim ((Apart.ne1 ap_P_b4) g hg) ((fun g h1 h2 => ap2_P_A g h1 h2) g hg))
        replace hW := hW.only hN70 (fun g hg h => h.elim ((Apart.ne1 ap_V_b4) g hg) ((fun g h1 h2 => ap2_A_V.symm g h1 h2) g hg))
        replace V57 := V57.only hN70 (fun g hg h => h.elim ((Apart.ne1 ap_A55_b4) g hg) ((fun g h1 h2 => ap2_A55_A g h1 h2) g hg))
        replace B53 := B53.only hN70 (fun h => h.elim (by show ¬ b50 = b4; omega) ap_A_b50)
        replace Bw := Bw.only hN70 (fun h => h.elim (by show ¬ b12 = b4; omega) ap_A_b12)
        replace hF := hF.loc2 hN70 (.inr g_b4) gA_A
        clear H
        refine fx_call fr rfl rfl (by first | decide | simp) (x_call (vs := [.int .i64 (sendE most l (la.getD i msg0))]) rfl rfl ⟨(fr.ev rfl), trivial⟩ Try.func10 nm10 rfl) (num_c (sendE most l (la.getD i msg0)) _) ?_
        clear fr a
        rintro v _ ⟨rfl, rfl⟩ a fr
        refine fx_val (v := .int .i64 (sendE most l (la.getD i msg0))) fr rfl rfl (by first | decide | simp) (x_move rfl (fr.ev rfl)) ?_
        clear fr a; intro a fr
        refine fx_val (v := .bool false) fr rfl rfl (by first | decide | simp) (x_neq rfl (fr.ev rfl) (fr.ev rfl) (by simp)) ?_
        clear fr a; intro a fr
        refine wpList_nil ?_
        refine fx_next ?_
        refine fx_cond_f fr rfl ?_
        refine wp_skip ?_
        refine fx_blk ?_
        refine fx_next ?_
        refine wp_region_lit ?_  -- region 7
        refine fx_val (v := .int .i64 ((i : Nat) : Int)) fr rfl rfl (by first | decide | simp) (x_move rfl (fr.ev rfl)) ?_
        clear fr a; intro a fr
        refine fx_val (v := .int .i64 ((i + 1 : Nat) : Int)) fr rfl rfl (by first | decide | simp) (x_add rfl (fr.ev rfl) rfl (i64w (r := ((i + 1 : Nat) : Int)) (by omega) (by omega))) ?_
        clear fr a; intro a fr
        refine fx_val (v := .int .i64 ((i + 1 : Nat) : Int)) fr rfl rfl (by first | decide | simp) (x_assign rfl (fr.ev rfl)) ?_
        clear fr a; intro a fr
        refine wpList_nil ?_
        refine fx_next ?_
        exact ⟨_, by omega, A65, cap66, (sendL most l (la.getD i msg0)), A55, cap56, (i + 1), rfl, fr.sub ⟨rfl, rfl, rfl, rfl, rfl, rfl, rfl, trivial⟩, hF, hV, H67, Bw, V57, by omega, (by have := sendL_le most l (la.getD i msg0); omega), ap2_A65_P.symm, ap_A65_b12, ap_A55_b4, ap2_A65_A55, ap_A55_b12, gA_A65, gA_A55⟩
    · skip
      have hc21 := of_decide_eq_false hc21
      refine wp_exit ?_
      refine fx_xt ?_
      refine fx_xt ?_
      refine fx_xx ?_
      refine fx_next ?_
      refine wp_seq ?_
      refine wp_region_lit ?_  -- region 12
      refine fx_val (v := .int .i64 0) fr rfl rfl (by first | decide | simp) (x_move rfl (fr.ev rfl)) ?_
      clear fr a; intro a fr
      refine fx_call fr rfl rfl (by first | decide | simp) (x_call (vs := [.int .i64 0]) rfl rfl ⟨(fr.ev rfl), trivial⟩ Try.func10 nm10 rfl) (num_c 0 _) ?_
      clear fr a
      rintro v _ ⟨rfl, rfl⟩ a fr
      refine fx_val (v := .bool true) fr rfl rfl (by first | decide | simp) (x_eql rfl (fr.ev rfl) rfl rfl) ?_
      clear fr a; intro a fr
      refine fx_val (v := .bool true) fr rfl rfl (by first | decide | simp) (x_move rfl (fr.ev rfl)) ?_
      clear fr a; intro a fr
      refine fx_val (v := .pointer (some ⟨b4, 0, none⟩)) fr (fr.want rfl rfl rfl) rfl (by first | decide | simp) (x_move rfl (fr.ev rfl)) ?_
      clear fr a; intro a fr
      refine fx_val (v := .agg (#[.int .i64 most, .slice V l.length vc])) fr (fr.want rfl rfl rfl) rfl (by first | decide | simp) (x_loadS ag49 rfl (fr.ev rfl) rfl Bw.range) ?_
      clear fr a; intro a fr
      refine fx_call fr (fr.want rfl rfl rfl) rfl (by first | decide | simp) (x_call (vs := [.pointer (some ⟨b4, 0, none⟩), .agg (#[.int .i64 most, .slice V l.length vc])]) rfl rfl ⟨(fr.ev rfl), (fr.ev rfl), trivial⟩ Try.func22 nm22 rfl) (is_c H hW (by omega) (by omega)) ?_
      clear fr a
      rintro v w75 ⟨rfl, hN76⟩ a fr
      replace hV := hV.new hN76
      replace H := H.new hN76
      replace Bw := Bw.new hN76
      replace hW := hW.new hN76
      replace hF := hF.trNew hN76
      refine fx_val (v := .bool true) fr rfl rfl (by first | decide | simp) (x_pick_t rfl (fr.ev rfl) (fr.ev rfl)) ?_
      clear fr a; intro a fr
      refine fx_val (v := .bool true) fr rfl rfl (by first | decide | simp) (x_move rfl (fr.ev rfl)) ?_
      clear fr a; intro a fr
      refine fx_call fr (fr.want rfl rfl rfl) rfl (by first | decide | simp) (x_call (vs := []) rfl rfl trivial Try.func13 nm13 rfl) (works_c _) ?_
      clear fr a
      rintro v w77 ⟨rfl, hN78⟩ a fr
      replace hV := hV.new hN78
      replace H := H.new hN78
      replace Bw := Bw.new hN78
      replace hW := hW.new hN78
      replace hF := hF.trNew hN78
      refine fx_val (v := .bool true) fr rfl rfl (by first | decide | simp) (x_pick_t rfl (fr.ev rfl) (fr.ev rfl)) ?_
      clear fr a; intro a fr
      refine fx_val (v := .bool true) fr rfl rfl (by first | decide | simp) (x_assign rfl (fr.ev rfl)) ?_
      clear fr a; intro a fr
      refine wpList_nil ?_
      refine fx_next ?_
      refine wp_ret ?_
      refine fx_ret fr [.tmp 4] [.bool true] rfl ⟨rfl, trivial⟩ rfl ?_
      exact ⟨_, rfl, rfl, hF⟩
set_option maxRecDepth 100000 in
set_option maxHeartbeats 4000000 in
theorem delivers_c {w : World} {P : Option Addr} {cp : Nat} {la : List Msg} (hV : View msgE w P cp la) (pick : Int) : Calls Try.prog 7 #[.slice P la.length cp, .int .i64 pick] w (Ret fun v w' => v = .bool true ∧ New w w') := by
  have hF := Only.refl (fun _ => False) w
  refine fx_enter Try.func7 rfl (N := (78, [])) (T := [(0, .slice P la.length cp), (1, .int .i64 pick)]) rfl (show 2 ≤ 78 by decide) ⟨rfl, rfl, trivial⟩ fun a fr => ?_
  refine wp_seq ?_
  refine wp_region_lit ?_  -- region 0
  refine fx_val (v := .bool false) fr rfl rfl (by first | decide | simp) (x_assign rfl rfl) ?_
  clear fr a; intro a fr
  refine wpList_nil ?_
  refine fx_next ?_
  refine wp_seq ?_
  refine wp_seq ?_
  refine wp_region_lit ?_  -- region 1
  refine fx_val (v := .slice P la.length cp) fr rfl rfl (by first | decide | simp) (x_move rfl (fr.ev rfl)) ?_
  clear fr a; intro a fr
  refine fx_val (v := .int .i64 ((la.length : Nat) : Int)) fr rfl rfl (by first | decide | simp) (x_len Try.underlying38 rfl (fr.ev rfl)) ?_
  clear fr a; intro a fr
  refine fx_val (v := .bool (decide (100 < ((la.length : Nat) : Int)))) fr rfl rfl (by first | decide | simp) (x_gtr rfl (fr.ev rfl) rfl rfl) ?_
  clear fr a; intro a fr
  refine wpList_nil ?_
  refine fx_next ?_
  refine fx_cond fr rfl (fun hc1 => ?_) (fun hc1 => ?_)
  · skip
    have hc1 := of_decide_eq_true hc1
    refine wp_seq ?_
    refine wp_region_lit ?_  -- region 2
    refine fx_call fr rfl rfl (by first | decide | simp) (x_call (vs := []) rfl rfl trivial Try.func13 nm13 rfl) (works_c _) ?_
    clear fr a
    rintro v w2 ⟨rfl, hN3⟩ a fr
    replace hV := hV.new hN3
    replace hF := hF.trNew hN3
    refine fx_val (v := .bool true) fr rfl rfl (by first | decide | simp) (x_assign rfl (fr.ev rfl)) ?_
    clear fr a; intro a fr
    refine wpList_nil ?_
    refine fx_next ?_
    refine wp_ret ?_
    refine fx_rt ?_
    refine fx_ret fr [.tmp 4] [.bool true] rfl ⟨rfl, trivial⟩ rfl ?_
    exact ⟨_, rfl, rfl, hF⟩
  · skip
    have hc1 := of_decide_eq_false hc1
    refine wp_skip ?_
    refine fx_next ?_
    refine wp_seq ?_
    refine wp_region_lit ?_  -- region 3
    refine fx_call fr rfl rfl (by first | decide | simp) (x_call (vs := [.int .i64 200]) rfl rfl ⟨rfl, trivial⟩ Try.func14 nm14 rfl) (new_yes 200 _ (by omega) (by omega)) ?_
    clear fr a
    rintro v w10 ⟨b4, A5, cap6, rfl, H7, hb8, hA9, hN11⟩ a fr
    have ap_P_b4 : Apart P b4 := hV.apart hb8
    have g_b4 := Nat.le_trans hF.size hb8
    have ap2_P_A5 : Apart2 P A5 := (new_apart2 hA9 fun _ hg => hV.lt hg).symm
    have gA_A5 := gA_new hF hA9
    replace hV := hV.new hN11
    replace hF := hF.trNew hN11
    refine fx_val (v := .tuple #[.pointer (some ⟨b4, 0, none⟩), .int .i64 0]) fr rfl rfl (by first | decide | simp) (x_move rfl (fr.ev rfl)) ?_
    clear fr a; intro a fr
    refine fx_val (v := .pointer (some ⟨b4, 0, none⟩)) fr rfl rfl (by first | decide | simp) (x_extract rfl (fr.ev rfl) rfl) ?_
    clear fr a; intro a fr
    refine fx_val (v := .int .i64 0) fr rfl rfl (by first | decide | simp) (x_extract rfl (fr.ev rfl) rfl) ?_
    clear fr a; intro a fr
    refine fx_val (v := .pointer (some ⟨b4, 0, none⟩)) fr rfl rfl (by first | decide | simp) (x_assign rfl (fr.ev rfl)) ?_
    clear fr a; intro a fr
    refine fx_val (v := .int .i64 0) fr rfl rfl (by first | decide | simp) (x_assign rfl (fr.ev rfl)) ?_
    clear fr a; intro a fr
    refine wpList_nil ?_
    refine fx_next ?_
    refine wp_seq ?_
    refine wp_region_lit ?_  -- region 4
    refine fx_val (v := .agg (#[.int .i64 200, .slice none 0 0])) fr rfl rfl (by first | decide | simp) (x_build (cells := #[.int .i64 200, .slice none 0 0]) rfl (by kernel_rfl)) ?_
    clear fr a; intro a fr
    refine fx_new fr rfl rfl (by first | decide | simp) (x_alloc (z := .agg (#[.int .i64 0, .slice none 0 0])) (cs := #[.int .i64 0, .slice none 0 0]) rfl (by kernel_rfl) rfl) ?_
    clear fr a
    intro b12 w13 hN14 B15 hb16 a fr
    have ap_P_b12 : Apart P b12 := hV.apart hb16
    have ne_b4_b12 : ¬ b4 = b12 := Nat.ne_of_lt (Nat.lt_of_lt_of_le H7.ltb hb16)
    have ap_A5_b12 : Apart A5 b12 := H7.apart hb16
    have g_b12 := Nat.le_trans hF.size hb16
    replace hV := hV.new hN14
    replace H7 := H7.new hN14
    replace hF := hF.trNew hN14
    refine fx_storeS sz49 rfl rfl rfl (fr.ev rfl) (fr.ev rfl) (by simp [Value.oneCell']) B15 rfl rfl fun w17 hO18 hBq => ?_
    replace hV := hV.only hO18 (Apart.ne1 ap_P_b12)
    replace H7 := H7.only hO18 (by show ¬ b4 = b12; omega) (Apart.ne1 ap_A5_b12)
    replace hF := hF.loc hO18 (.inr g_b12)
    replace B15 := hBq
    clear hBq
    refine wpList_nil ?_
    refine fx_next ?_
    refine wp_seq ?_
    refine wp_seq ?_
    refine wp_region_lit ?_  -- region 5
    refine fx_val (v := .int .i64 0) fr rfl rfl (by first | decide | simp) (x_assign rfl rfl) ?_
    clear fr a; intro a fr
    refine wpList_nil ?_
    refine fx_next ?_
    refine wp_block ?_
    refine fx_loop (fun nM a wL => ∃ A : Option Addr, ∃ cap : Nat, ∃ l : List Msg, ∃ V : Option Addr, ∃ vc : Nat, ∃ i : Nat, nM = la.length - i ∧ Fr (78, []) [(0, .slice P la.length cp), (1, .int .i64 pick), (4, .bool false), (5, .pointer (some ⟨b4, 0, none⟩)), (6, .int .i64 0), (7, .pointer (some ⟨b12, 0, none⟩)), (8, .int .i64 ((i : Nat) : Int))] a ∧ Only (fun _ => False) w wL ∧ View msgE wL P cp la ∧ NetAt wL b4 A cap 200 l ∧ Blk wL b12 49 #[.int .i64 200, .slice V l.length vc] ∧ View msgE wL V vc l ∧ i ≤ la.length ∧ l.length ≤ i ∧ (Apart2 P A) ∧ (Apart A b12) ∧ (Apart V b4) ∧ (Apart2 A V) ∧ (Apart V b12) ∧ (∀ g, inA A g → (fun _ => False) g ∨ w.heap.size ≤ g) ∧ (∀ g, inA V g → (fun _ => False) g ∨ w.heap.size ≤ g)) (n0 := _) ⟨A5, cap6, [], none, 0, 0, rfl, fr.sub ⟨rfl, rfl, rfl, rfl, rfl, rfl, rfl, trivial⟩, hF, hV, H7, B15, View.nil, by omega, Nat.le_refl _, ap2_P_A5, ap_A5_b12, (apart_none b4), (fun k _ h => apart_none k h), (apart_none b12), gA_A5, gA_none⟩ ?_
    rintro n20 a w19 ⟨A, cap, l, V, vc, i, rfl, fr, hF, hV, H, Bw, hW, hi, hli, ap2_P_A, ap_A_b12, ap_V_b4, ap2_A_V, ap_V_b12, gA_A, gA_V⟩
    refine wp_seq ?_
    refine wp_seq ?_
    refine wp_region_lit ?_  -- region 6
    refine fx_val (v := .int .i64 ((i : Nat) : Int)) fr rfl rfl (by first | decide | simp) (x_move rfl (fr.ev rfl)) ?_
    clear fr a; intro a fr
    refine fx_val (v := .slice P la.length cp) fr rfl rfl (by first | decide | simp) (x_move rfl (fr.ev rfl)) ?_
    clear fr a; intro a fr
    refine fx_val (v := .int .i64 ((la.length : Nat) : Int)) fr rfl rfl (by first | decide | simp) (x_len Try.underlying38 rfl (fr.ev rfl)) ?_
    clear fr a; intro a fr
    refine fx_val (v := .bool (decide (((i : Nat) : Int) < ((la.length : Nat) : Int)))) fr rfl rfl (by first | decide | simp) (x_lss rfl (fr.ev rfl) (fr.ev rfl) rfl) ?_
    clear fr a; intro a fr
    refine wpList_nil ?_
    refine fx_next ?_
    refine fx_cond fr rfl (fun hc21 => ?_) (fun hc21 => ?_)
    · skip
      have hc21 := of_decide_eq_true hc21
      refine wp_skip ?_
      refine fx_next ?_
      refine wp_seq ?_
      refine wp_block ?_
      refine wp_seq ?_
      refine fx_held (n := 10) (fun w => View msgE w P cp la ∧ NetAt w b4 A cap 200 l ∧ View msgE w V vc l ∧ True) (by kernel_rfl) rfl ?_  -- region 8
      intro w22 hN23
      replace hV := hV.new hN23
      replace H := H.new hN23
      replace Bw := Bw.new hN23
      replace hW := hW.new hN23
      replace hF := hF.trNew hN23
      refine fx_take (i := 1) (v := .slice P la.length cp) fr rfl (by kernel_rfl) rfl rfl (by first | decide | simp) (fun _ _ _ h => h) (fun _ ⟨hV, H, hW, _⟩ => x_move rfl (fr.ev rfl)) ⟨hV, H, hW, trivial⟩ ?_
      clear fr a; intro a fr
      refine fx_take (i := 2) (v := .int .i64 ((i : Nat) : Int)) fr rfl (by kernel_rfl) rfl rfl (by first | decide | simp) (fun _ _ _ h => h) (fun _ ⟨hV, H, hW, _⟩ => x_move rfl (fr.ev rfl)) ⟨hV, H, hW, trivial⟩ ?_
      clear fr a; intro a fr
      obtain ⟨g24, o25, hA26⟩ := (hV).some_ (by omega)
      refine fx_take (i := 3) (v := .pointer (some ⟨g24, o25 + i * 20, none⟩)) fr rfl (by kernel_rfl) rfl rfl (by first | decide | simp) (fun _ _ _ h => h) (fun _ ⟨hV, H, hW, _⟩ => x_indexV Try.underlying38 sz26 rfl (fr.ev rfl) hA26 (fr.ev rfl) (by omega) rfl) ⟨hV, H, hW, trivial⟩ ?_
      clear fr a; intro a fr
      refine fx_take (i := 4) (v := .agg (msgE.arr (la.getD i msg0))) fr rfl (by kernel_rfl) rfl rfl (by first | decide | simp) (fun _ _ _ h => h) (fun _ ⟨hV, H, hW, _⟩ => x_loadE (E := msgE) ag26 rfl rfl (fr.ev rfl) ((hV).elem hA26 i msg0 (by omega))) ⟨hV, H, hW, trivial⟩ ?_
      clear fr a; intro a fr
      refine fx_one (i := 0) (by kernel_rfl) (fx_op rfl ?_)
      refine fx_val (v := .agg (#[.int .i64 200, .slice V l.length vc])) fr rfl rfl (by first | decide | simp) (x_loadS ag49 rfl (fr.ev rfl) rfl Bw.range) ?_
      clear fr a; intro a fr
      refine wpList_nil ?_
      refine ⟨⟨hV, H, hW, trivial⟩, ?_⟩
      refine fx_one (i := 5) (by kernel_rfl) (fx_op rfl ?_)
      refine fx_call fr rfl rfl (by first | decide | simp) (x_call (vs := [.agg (#[.int .i64 200, .slice V l.length vc]), .agg (msgE.arr (la.getD i msg0))]) rfl rfl ⟨(fr.ev rfl), (fr.ev rfl), trivial⟩ Try.func23 nm23 rfl) (rsend_c (la.getD i msg0) hW (by omega)) ?_
      clear fr a
      rintro v w31 ⟨A27, cap28, rfl, V29, mv30, hN32⟩ a fr
      have ap_A27_b4 : Apart A27 b4 := moved_apart mv30 ap_V_b4 H.ltb
      have ap2_A27_A : Apart2 A27 A := moved_apart2 mv30 ap2_A_V.symm fun _ hg => H.lt hg
      have ap_A27_b12 : Apart A27 b12 := moved_apart mv30 ap_V_b12 Bw.lt
      have gA_A27 := gA_moved hF mv30 gA_V
      replace hV := hV.new hN32
      replace H := H.new hN32
      replace Bw := Bw.new hN32
      replace hW := hW.new hN32
      replace hF := hF.trNew hN32
      refine wpList_nil ?_
      refine ⟨⟨hV, H, hW, trivial⟩, ?_⟩
      refine fx_take (i := 6) (v := .tuple #[.agg (#[.int .i64 200, .slice A27 ((sendL 200 l (la.getD i msg0)).length) cap28]), .int .i64 (sendE 200 l (la.getD i msg0))]) fr rfl (by kernel_rfl) rfl rfl (by first | decide | simp) (fun _ _ _ h => h) (fun _ ⟨hV, H, hW, _⟩ => x_move rfl (fr.ev rfl)) ⟨hV, H, hW, trivial⟩ ?_
      clear fr a; intro a fr
      refine fx_take (i := 7) (v := .agg (#[.int .i64 200, .slice A27 ((sendL 200 l (la.getD i msg0)).length) cap28])) fr rfl (by kernel_rfl) rfl rfl (by first | decide | simp) (fun _ _ _ h => h) (fun _ ⟨hV, H, hW, _⟩ => x_extract rfl (fr.ev rfl) rfl) ⟨hV, H, hW, trivial⟩ ?_
      clear fr a; intro a fr
      refine fx_take (i := 8) (v := .int .i64 (sendE 200 l (la.getD i msg0))) fr rfl (by kernel_rfl) rfl rfl (by first | decide | simp) (fun _ _ _ h => h) (fun _ ⟨hV, H, hW, _⟩ => x_extract rfl (fr.ev rfl) rfl) ⟨hV, H, hW, trivial⟩ ?_
      clear fr a; intro a fr
      refine fx_one (i := 9) (by kernel_rfl) (fx_op rfl ?_)
      refine fx_storeS sz49 rfl rfl rfl (fr.ev rfl) (fr.ev rfl) (by simp [Value.oneCell']) Bw rfl rfl fun w33 hO34 hBq => ?_
      replace hV := hV.only hO34 (Apart.ne1 ap_P_b12)
      replace H := H.only hO34 (by show ¬ b4 = b12; omega) (Apart.ne1 ap_A_b12)
      replace hW := hW.only hO34 (Apart.ne1 ap_V_b12)
      replace V29 := V29.only hO34 (Apart.ne1 ap_A27_b12)
      replace hF := hF.loc hO34 (.inr g_b12)
      replace Bw := hBq
      clear hBq
      refine wpList_nil ?_
      refine ⟨⟨hV, H, hW, trivial⟩, ?_⟩
      refine fx_hdone (by kernel_rfl) ?_
      refine fx_next ?_
      refine wp_region_lit ?_  -- region 9
      refine fx_val (v := .pointer (some ⟨b4, 0, none⟩)) fr rfl rfl (by first | decide | simp) (x_move rfl (fr.ev rfl)) ?_
      clear fr a; intro a fr
      refine fx_val (v := .slice P la.length cp) fr rfl rfl (by first | decide | simp) (x_move rfl (fr.ev rfl)) ?_
      clear fr a; intro a fr
      refine fx_val (v := .int .i64 ((i : Nat) : Int)) fr rfl rfl (by first | decide | simp) (x_move rfl (fr.ev rfl)) ?_
      clear fr a; intro a fr
      refine fx_val (v := .pointer (some ⟨g24, o25 + i * 20, none⟩)) fr rfl rfl (by first | decide | simp) (x_indexV Try.underlying38 sz26 rfl (fr.ev rfl) hA26 (fr.ev rfl) (by omega) rfl) ?_
      clear fr a; intro a fr
      refine fx_val (v := .agg (msgE.arr (la.getD i msg0))) fr rfl rfl (by first | decide | simp) (x_loadE (E := msgE) ag26 rfl rfl (fr.ev rfl) ((hV).elem hA26 i msg0 (by omega))) ?_
      clear fr a; intro a fr
      refine fx_call fr rfl rfl (by first | decide | simp) (x_call (vs := [.pointer (some ⟨b4, 0, none⟩), .agg (msgE.arr (la.getD i msg0))]) rfl rfl ⟨(fr.ev rfl), (fr.ev rfl), trivial⟩ Try.func15 nm15 rfl) (send_c (la.getD i msg0) H (by omega) (by omega)) ?_
      clear fr a
      rintro v w39 ⟨rfl, A35, cap36, H37, hN40, mv38⟩ a fr
      have ap2_A35_P : Apart2 A35 P := moved_apart2 mv38 ap2_P_A.symm fun _ hg => hV.lt hg
      have ap2_A35_V : Apart2 A35 V := moved_apart2 mv38 ap2_A_V fun _ hg => hW.lt hg
      have ap2_A35_A27 : Apart2 A35 A27 := moved_apart2 mv38 ap2_A27_A.symm fun _ hg => V29.lt hg
      have ap_A35_b12 : Apart A35 b12 := moved_apart mv38 ap_A_b12 Bw.lt
      have gA_A35 := gA_moved hF mv38 gA_A
      replace hV := hV.only hN40 (fun g hg h => h.elim ((Apart.ne1 ap_P_b4) g hg) ((fun g h1 h2 => ap2_P_A g h1 h2) g hg))
      replace hW := hW.only hN40 (fun g hg h => h.elim ((Apart.ne1 ap_V_b4) g hg) ((fun g h1 h2 => ap2_A_V.symm g h1 h2) g hg))
      replace V29 := V29.only hN40 (fun g hg h => h.elim ((Apart.ne1 ap_A27_b4) g hg) ((fun g h1 h2 => ap2_A27_A g h1 h2) g hg))
      replace Bw := Bw.only hN40 (fun h => h.elim (by show ¬ b12 = b4; omega) ap_A_b12)
      replace hF := hF.loc2 hN40 (.inr g_b4) gA_A
      clear H
      refine wpList_nil ?_
      refine fx_blk ?_
      refine fx_next ?_
      refine wp_region_lit ?_  -- region 7
      refine fx_val (v := .int .i64 ((i : Nat) : Int)) fr rfl rfl (by first | decide | simp) (x_move rfl (fr.ev rfl)) ?_
      clear fr a; intro a fr
      refine fx_val (v := .int .i64 ((i + 1 : Nat) : Int)) fr rfl rfl (by first | decide | simp) (x_add rfl (fr.ev rfl) rfl (i64w (r := ((i + 1 : Nat) : Int)) (by omega) (by omega))) ?_
      clear fr a; intro a fr
      refine fx_val (v := .int .i64 ((i + 1 : Nat) : Int)) fr rfl rfl (by first | decide | simp) (x_assign rfl (fr.ev rfl)) ?_
      clear fr a; intro a fr
      refine wpList_nil ?_
      refine fx_next ?_
      exact ⟨_, by omega, A35, cap36, (sendL 200 l (la.getD i msg0)), A27, cap28, (i + 1), rfl, fr.sub ⟨rfl, rfl, rfl, rfl, rfl, rfl, rfl, trivial⟩, hF, hV, H37, Bw, V29, by omega, (by have := sendL_le 200 l (la.getD i msg0); omega), ap2_A35_P.symm, ap_A35_b12, ap_A27_b4, ap2_A35_A27, ap_A27_b12, gA_A35, gA_A27⟩
    · skip
      have hc21 := of_decide_eq_false hc21
      refine wp_exit ?_
      refine fx_xt ?_
      refine fx_xt ?_
      refine fx_xx ?_
      refine fx_next ?_
      refine wp_seq ?_
      have hdl := delL_le pick l
      refine wp_region_lit ?_  -- region 10
      refine fx_val (v := .agg (#[.int .i64 200, .slice V l.length vc])) fr rfl rfl (by first | decide | simp) (x_loadS ag49 rfl (fr.ev rfl) rfl Bw.range) ?_
      clear fr a; intro a fr
      refine fx_val (v := .int .i64 pick) fr rfl rfl (by first | decide | simp) (x_move rfl (fr.ev rfl)) ?_
      clear fr a; intro a fr
      refine fx_call fr rfl rfl (by first | decide | simp) (x_call (vs := [.agg (#[.int .i64 200, .slice V l.length vc]), .int .i64 pick]) rfl rfl ⟨(fr.ev rfl), (fr.ev rfl), trivial⟩ Try.func24 nm24 rfl) (rdeliver_c pick hW (by omega)) ?_
      clear fr a
      rintro v w45 ⟨A41, cap42, rfl, V43, mv44, hN46⟩ a fr
      have ap_A41_b4 : Apart A41 b4 := moved_apart mv44 ap_V_b4 H.ltb
      have ap2_A41_A : Apart2 A41 A := moved_apart2 mv44 ap2_A_V.symm fun _ hg => H.lt hg
      have ap_A41_b12 : Apart A41 b12 := moved_apart mv44 ap_V_b12 Bw.lt
      have gA_A41 := gA_moved hF mv44 gA_V
      replace hV := hV.new hN46
      replace H := H.new hN46
      replace Bw := Bw.new hN46
      replace hW := hW.new hN46
      replace hF := hF.trNew hN46
      refine fx_val (v := .tuple #[.agg (#[.int .i64 200, .slice A41 ((delL pick l).length) cap42]), .agg (msgE.arr (delM pick l)), .bool (decide (l ≠ []))]) fr rfl rfl (by first | decide | simp) (x_move rfl (fr.ev rfl)) ?_
      clear fr a; intro a fr
      refine fx_val (v := .agg (#[.int .i64 200, .slice A41 ((delL pick l).length) cap42])) fr rfl rfl (by first | decide | simp) (x_extract rfl (fr.ev rfl) rfl) ?_
      clear fr a; intro a fr
      refine fx_val (v := .agg (msgE.arr (delM pick l))) fr rfl rfl (by first | decide | simp) (x_extract rfl (fr.ev rfl) rfl) ?_
      clear fr a; intro a fr
      refine fx_val (v := .bool (decide (l ≠ []))) fr rfl rfl (by first | decide | simp) (x_extract rfl (fr.ev rfl) rfl) ?_
      clear fr a; intro a fr
      refine fx_new fr rfl rfl (by first | decide | simp) (x_alloc (z := .agg (#[.int .i64 0, .slice none 0 0])) (cs := #[.int .i64 0, .slice none 0 0]) rfl (by kernel_rfl) rfl) ?_
      clear fr a
      intro b47 w48 hN49 B50 hb51 a fr
      have ap_P_b47 : Apart P b47 := hV.apart hb51
      have ne_b4_b47 : ¬ b4 = b47 := Nat.ne_of_lt (Nat.lt_of_lt_of_le H.ltb hb51)
      have ap_A_b47 : Apart A b47 := H.apart hb51
      have ne_b12_b47 : ¬ b12 = b47 := Nat.ne_of_lt (Nat.lt_of_lt_of_le Bw.lt hb51)
      have ap_V_b47 : Apart V b47 := hW.apart hb51
      have ap_A41_b47 : Apart A41 b47 := V43.apart hb51
      have g_b47 := Nat.le_trans hF.size hb51
      replace hV := hV.new hN49
      replace H := H.new hN49
      replace Bw := Bw.new hN49
      replace hW := hW.new hN49
      replace V43 := V43.new hN49
      replace hF := hF.trNew hN49
      refine fx_new fr rfl rfl (by first | decide | simp) (x_alloc (z := .agg (#[.int .i64 0, .int .i64 0, .int .i64 0, .int .u32 0, .int .u8 0, .int .u8 0, .int .u8 0, .int .u8 0, .int .u8 0, .int .u8 0, .int .u8 0, .int .u8 0, .int .u8 0, .int .u8 0, .int .u8 0, .int .u8 0, .int .u8 0, .int .u8 0, .int .u8 0, .int .u8 0])) (cs := msgE.arr msg0) rfl (by kernel_rfl) rfl) ?_
      clear fr a
      intro b52 w53 hN54 B55 hb56 a fr
      have ap_P_b52 : Apart P b52 := hV.apart hb56
      have ne_b4_b52 : ¬ b4 = b52 := Nat.ne_of_lt (Nat.lt_of_lt_of_le H.ltb hb56)
      have ap_A_b52 : Apart A b52 := H.apart hb56
      have ne_b12_b52 : ¬ b12 = b52 := Nat.ne_of_lt (Nat.lt_of_lt_of_le Bw.lt hb56)
      have ap_V_b52 : Apart V b52 := hW.apart hb56
      have ap_A41_b52 : Apart A41 b52 := V43.apart hb56
      have ne_b47_b52 : ¬ b47 = b52 := Nat.ne_of_lt (Nat.lt_of_lt_of_le B50.lt hb56)
      have g_b52 := Nat.le_trans hF.size hb56
      replace hV := hV.new hN54
      replace H := H.new hN54
      replace Bw := Bw.new hN54
      replace hW := hW.new hN54
      replace V43 := V43.new hN54
      replace B50 := B50.new hN54
      replace hF := hF.trNew hN54
      refine fx_storeS sz49 rfl rfl rfl (fr.ev rfl) (fr.ev rfl) (by simp [Value.oneCell']) B50 rfl rfl fun w57 hO58 hBq => ?_
      replace hV := hV.only hO58 (Apart.ne1 ap_P_b47)
      replace H := H.only hO58 (by show ¬ b4 = b47; omega) (Apart.ne1 ap_A_b47)
      replace Bw := Bw.only hO58 (by show ¬ b12 = b47; omega)
      replace hW := hW.only hO58 (Apart.ne1 ap_V_b47)
      replace V43 := V43.only hO58 (Apart.ne1 ap_A41_b47)
      replace B55 := B55.only hO58 (by show ¬ b52 = b47; omega)
      replace hF := hF.loc hO58 (.inr g_b47)
      replace B50 := hBq
      clear hBq
      refine fx_storeS sz26 rfl rfl rfl (fr.ev rfl) (fr.ev rfl) (msgE.all _) B55 (msgE.size _) (msgE.size _) fun w59 hO60 hBq => ?_
      replace hV := hV.only hO60 (Apart.ne1 ap_P_b52)
      replace H := H.only hO60 (by show ¬ b4 = b52; omega) (Apart.ne1 ap_A_b52)
      replace Bw := Bw.only hO60 (by show ¬ b12 = b52; omega)
      replace hW := hW.only hO60 (Apart.ne1 ap_V_b52)
      replace V43 := V43.only hO60 (Apart.ne1 ap_A41_b52)
      replace B50 := B50.only hO60 (by show ¬ b47 = b52; omega)
      replace hF := hF.loc hO60 (.inr g_b52)
      replace B55 := hBq
      clear hBq
      refine fx_val (v := .bool (decide (l ≠ []))) fr rfl rfl (by first | decide | simp) (x_assign rfl (fr.ev rfl)) ?_
      clear fr a; intro a fr
      refine wpList_nil ?_
      refine fx_next ?_
      refine wp_seq ?_
      refine wp_region_lit ?_  -- region 11
      refine fx_val (v := .pointer (some ⟨b4, 0, none⟩)) fr rfl rfl (by first | decide | simp) (x_move rfl (fr.ev rfl)) ?_
      clear fr a; intro a fr
      refine fx_val (v := .int .i64 pick) fr rfl rfl (by first | decide | simp) (x_move rfl (fr.ev rfl)) ?_
      clear fr a; intro a fr
      refine fx_call fr rfl rfl (by first | decide | simp) (x_call (vs := [.pointer (some ⟨b4, 0, none⟩), .int .i64 pick]) rfl rfl ⟨(fr.ev rfl), (fr.ev rfl), trivial⟩ Try.func16 nm16 rfl) (deliver_c pick H (by omega) (by omega)) ?_
      clear fr a
      rintro v w65 ⟨rfl, A61, cap62, H63, hN66, mv64⟩ a fr
      have ap2_A61_P : Apart2 A61 P := moved_apart2 mv64 ap2_P_A.symm fun _ hg => hV.lt hg
      have ap_A61_b12 : Apart A61 b12 := moved_apart mv64 ap_A_b12 Bw.lt
      have ap2_A61_V : Apart2 A61 V := moved_apart2 mv64 ap2_A_V fun _ hg => hW.lt hg
      have ap2_A61_A41 : Apart2 A61 A41 := moved_apart2 mv64 ap2_A41_A.symm fun _ hg => V43.lt hg
      have ap_A61_b47 : Apart A61 b47 := moved_apart mv64 ap_A_b47 B50.lt
      have ap_A61_b52 : Apart A61 b52 := moved_apart mv64 ap_A_b52 B55.lt
      have gA_A61 := gA_moved hF mv64 gA_A
      replace hV := hV.only hN66 (fun g hg h => h.elim ((Apart.ne1 ap_P_b4) g hg) ((fun g h1 h2 => ap2_P_A g h1 h2) g hg))
      replace Bw := Bw.only hN66 (fun h => h.elim (by show ¬ b12 = b4; omega) ap_A_b12)
      replace hW := hW.only hN66 (fun g hg h => h.elim ((Apart.ne1 ap_V_b4) g hg) ((fun g h1 h2 => ap2_A_V.symm g h1 h2) g hg))
      replace V43 := V43.only hN66 (fun g hg h => h.elim ((Apart.ne1 ap_A41_b4) g hg) ((fun g h1 h2 => ap2_A41_A g h1 h2) g hg))
      replace B50 := B50.only hN66 (fun h => h.elim (by show ¬ b47 = b4; omega) ap_A_b47)
      replace B55 := B55.only hN66 (fun h => h.elim (by show ¬ b52 = b4; omega) ap_A_b52)
      replace hF := hF.loc2 hN66 (.inr g_b4) gA_A
      clear H
      refine fx_val (v := .tuple #[.agg (msgE.arr (delM pick l)), .bool (decide (l ≠ []))]) fr rfl rfl (by first | decide | simp) (x_move rfl (fr.ev rfl)) ?_
      clear fr a; intro a fr
      refine fx_val (v := .agg (msgE.arr (delM pick l))) fr rfl rfl (by first | decide | simp) (x_extract rfl (fr.ev rfl) rfl) ?_
      clear fr a; intro a fr
      refine fx_val (v := .bool (decide (l ≠ []))) fr rfl rfl (by first | decide | simp) (x_extract rfl (fr.ev rfl) rfl) ?_
      clear fr a; intro a fr
      refine fx_new fr rfl rfl (by first | decide | simp) (x_alloc (z := .agg (#[.int .i64 0, .int .i64 0, .int .i64 0, .int .u32 0, .int .u8 0, .int .u8 0, .int .u8 0, .int .u8 0, .int .u8 0, .int .u8 0, .int .u8 0, .int .u8 0, .int .u8 0, .int .u8 0, .int .u8 0, .int .u8 0, .int .u8 0, .int .u8 0, .int .u8 0, .int .u8 0])) (cs := msgE.arr msg0) rfl (by kernel_rfl) rfl) ?_
      clear fr a
      intro b67 w68 hN69 B70 hb71 a fr
      have ap_P_b67 : Apart P b67 := hV.apart hb71
      have ne_b12_b67 : ¬ b12 = b67 := Nat.ne_of_lt (Nat.lt_of_lt_of_le Bw.lt hb71)
      have ap_V_b67 : Apart V b67 := hW.apart hb71
      have ap_A41_b67 : Apart A41 b67 := V43.apart hb71
      have ne_b47_b67 : ¬ b47 = b67 := Nat.ne_of_lt (Nat.lt_of_lt_of_le B50.lt hb71)
      have ne_b52_b67 : ¬ b52 = b67 := Nat.ne_of_lt (Nat.lt_of_lt_of_le B55.lt hb71)
      have ne_b4_b67 : ¬ b4 = b67 := Nat.ne_of_lt (Nat.lt_of_lt_of_le H63.ltb hb71)
      have ap_A61_b67 : Apart A61 b67 := H63.apart hb71
      have g_b67 := Nat.le_trans hF.size hb71
      replace hV := hV.new hN69
      replace Bw := Bw.new hN69
      replace hW := hW.new hN69
      replace V43 := V43.new hN69
      replace B50 := B50.new hN69
      replace B55 := B55.new hN69
      replace H63 := H63.new hN69
      replace hF := hF.trNew hN69
      refine fx_storeS sz26 rfl rfl rfl (fr.ev rfl) (fr.ev rfl) (msgE.all _) B70 (msgE.size _) (msgE.size _) fun w72 hO73 hBq => ?_
      replace hV := hV.only hO73 (Apart.ne1 ap_P_b67)
      replace Bw := Bw.only hO73 (by show ¬ b12 = b67; omega)
      replace hW := hW.only hO73 (Apart.ne1 ap_V_b67)
      replace V43 := V43.only hO73 (Apart.ne1 ap_A41_b67)
      replace B50 := B50.only hO73 (by show ¬ b47 = b67; omega)
      replace B55 := B55.only hO73 (by show ¬ b52 = b67; omega)
      replace H63 := H63.only hO73 (by show ¬ b4 = b67; omega) (Apart.ne1 ap_A61_b67)
      replace hF := hF.loc hO73 (.inr g_b67)
      replace B70 := hBq
      clear hBq
      refine fx_val (v := .bool (decide (l ≠ []))) fr rfl rfl (by first | decide | simp) (x_assign rfl (fr.ev rfl)) ?_
      clear fr a; intro a fr
      refine wpList_nil ?_
      refine fx_next ?_
      refine wp_seq ?_
      refine wp_region_lit ?_  -- region 12
      refine fx_val (v := .int .i64 0) fr rfl rfl (by first | decide | simp) (x_move rfl (fr.ev rfl)) ?_
      clear fr a; intro a fr
      refine fx_call fr rfl rfl (by first | decide | simp) (x_call (vs := [.int .i64 0]) rfl rfl ⟨(fr.ev rfl), trivial⟩ Try.func10 nm10 rfl) (num_c 0 _) ?_
      clear fr a
      rintro v _ ⟨rfl, rfl⟩ a fr
      refine fx_val (v := .bool true) fr rfl rfl (by first | decide | simp) (x_eql rfl (fr.ev rfl) rfl rfl) ?_
      clear fr a; intro a fr
      refine fx_val (v := .bool true) fr rfl rfl (by first | decide | simp) (x_move rfl (fr.ev rfl)) ?_
      clear fr a; intro a fr
      refine fx_val (v := .agg (msgE.arr (delM pick l))) fr (fr.want rfl rfl rfl) rfl (by first | decide | simp) (x_loadE (E := msgE) ag26 rfl rfl (fr.ev rfl) (B70.rangeE msgE)) ?_
      clear fr a; intro a fr
      refine fx_val (v := .agg (msgE.arr (delM pick l))) fr (fr.want rfl rfl rfl) rfl (by first | decide | simp) (x_loadE (E := msgE) ag26 rfl rfl (fr.ev rfl) (B55.rangeE msgE)) ?_
      clear fr a; intro a fr
      refine fx_val (v := .bool true) fr (fr.want rfl rfl rfl) rfl (by first | decide | simp) (x_eqE msgER rfl rfl (fr.ev rfl) (fr.ev rfl) (by simp)) ?_
      clear fr a; intro a fr
      refine fx_val (v := .bool true) fr rfl rfl (by first | decide | simp) (x_pick_t rfl (fr.ev rfl) (fr.ev rfl)) ?_
      clear fr a; intro a fr
      refine fx_val (v := .bool true) fr rfl rfl (by first | decide | simp) (x_move rfl (fr.ev rfl)) ?_
      clear fr a; intro a fr
      refine fx_val (v := .bool (decide (l ≠ []))) fr (fr.want rfl rfl rfl) rfl (by first | decide | simp) (x_move rfl (fr.ev rfl)) ?_
      clear fr a; intro a fr
      refine fx_val (v := .bool (decide (l ≠ []))) fr (fr.want rfl rfl rfl) rfl (by first | decide | simp) (x_move rfl (fr.ev rfl)) ?_
      clear fr a; intro a fr
      refine fx_val (v := .bool true) fr (fr.want rfl rfl rfl) rfl (by first | decide | simp) (x_beql Try.underlying4 rfl (fr.ev rfl) (fr.ev rfl) (by simp)) ?_
      clear fr a; intro a fr
      refine fx_val (v := .bool true) fr rfl rfl (by first | decide | simp) (x_pick_t rfl (fr.ev rfl) (fr.ev rfl)) ?_
      clear fr a; intro a fr
      refine fx_val (v := .bool true) fr rfl rfl (by first | decide | simp) (x_move rfl (fr.ev rfl)) ?_
      clear fr a; intro a fr
      refine fx_val (v := .pointer (some ⟨b4, 0, none⟩)) fr (fr.want rfl rfl rfl) rfl (by first | decide | simp) (x_move rfl (fr.ev rfl)) ?_
      clear fr a; intro a fr
      refine fx_val (v := .agg (#[.int .i64 200, .slice A41 ((delL pick l).length) cap42])) fr (fr.want rfl rfl rfl) rfl (by first | decide | simp) (x_loadS ag49 rfl (fr.ev rfl) rfl B50.range) ?_
      clear fr a; intro a fr
      refine fx_call fr (fr.want rfl rfl rfl) rfl (by first | decide | simp) (x_call (vs := [.pointer (some ⟨b4, 0, none⟩), .agg (#[.int .i64 200, .slice A41 ((delL pick l).length) cap42])]) rfl rfl ⟨(fr.ev rfl), (fr.ev rfl), trivial⟩ Try.func22 nm22 rfl) (is_c H63 V43 (by omega) (by omega)) ?_
      clear fr a
      rintro v w76 ⟨rfl, hN77⟩ a fr
      replace hV := hV.new hN77
      replace Bw := Bw.new hN77
      replace hW := hW.new hN77
      replace V43 := V43.new hN77
      replace B50 := B50.new hN77
      replace B55 := B55.new hN77
      replace H63 := H63.new hN77
      replace B70 := B70.new hN77
      replace hF := hF.trNew hN77
      refine fx_val (v := .bool true) fr rfl rfl (by first | decide | simp) (x_pick_t rfl (fr.ev rfl) (fr.ev rfl)) ?_
      clear fr a; intro a fr
      refine fx_val (v := .bool true) fr rfl rfl (by first | decide | simp) (x_move rfl (fr.ev rfl)) ?_
      clear fr a; intro a fr
      refine fx_call fr (fr.want rfl rfl rfl) rfl (by first | decide | simp) (x_call (vs := []) rfl rfl trivial Try.func13 nm13 rfl) (works_c _) ?_
      clear fr a
      rintro v w78 ⟨rfl, hN79⟩ a fr
      replace hV := hV.new hN79
      replace Bw := Bw.new hN79
      replace hW := hW.new hN79
      replace V43 := V43.new hN79
      replace B50 := B50.new hN79
      replace B55 := B55.new hN79
      replace H63 := H63.new hN79
      replace B70 := B70.new hN79
      replace hF := hF.trNew hN79
      refine fx_val (v := .bool true) fr rfl rfl (by first | decide | simp) (x_pick_t rfl (fr.ev rfl) (fr.ev rfl)) ?_
      clear fr a; intro a fr
      refine fx_val (v := .bool true) fr rfl rfl (by first | decide | simp) (x_assign rfl (fr.ev rfl)) ?_
      clear fr a; intro a fr
      refine wpList_nil ?_
      refine fx_next ?_
      refine wp_ret ?_
      refine fx_ret fr [.tmp 4] [.bool true] rfl ⟨rfl, trivial⟩ rfl ?_
      exact ⟨_, rfl, rfl, hF⟩
end Go.Proofs.Ytdpkeabmfhnfiaa
