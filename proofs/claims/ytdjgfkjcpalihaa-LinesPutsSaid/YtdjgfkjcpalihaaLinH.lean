/-
  works, is, played; LinesPlays, LinesPuts. Printed by gen_h.py.
-/
import Derived.Test.YtdjgfkjcpalihaaLinH0
namespace Go.Proofs.Ytdjgfkjcpalihaa
open Go.RowKit

set_option maxRecDepth 100000 in
set_option maxHeartbeats 4000000 in
theorem works_c (w : World) : Calls Try.prog 11 #[] w (Ret fun v w' => v = .bool true ∧ New w w') := by
  have hF := Only.refl (fun _ => False) w
  refine fx_enter Try.func11 rfl (N := (69, [])) (T := []) rfl (show 0 ≤ 69 by decide) trivial fun a fr => ?_
  refine wp_seq ?_
  refine wp_region_lit ?_  -- region 0
  refine fx_val (v := .bool false) fr rfl rfl (by first | decide | simp) (x_assign rfl rfl) ?_
  clear fr a; intro a fr
  refine wpList_nil ?_
  refine fx_next ?_
  refine wp_seq ?_
  refine wp_region_lit ?_  -- region 1
  refine fx_call fr rfl rfl (by first | decide | simp) (x_call (vs := [.int .i64 2, .int .i64 2]) rfl rfl ⟨rfl, rfl, trivial⟩ Try.func18 nm18 rfl) (new_yes 2 2 _ (by first | rfl | decide | assumption)) ?_
  clear fr a
  rintro v w5 ⟨b1, Fp2, rfl, H3, hb4, hN6⟩ a fr
  have gA_Fp2 := gA_newP hF hb4
  replace hF := hF.trNew hN6
  refine fx_val (v := .tuple #[.pointer (some ⟨b1, 0, none⟩), .int .i64 0]) fr rfl rfl (by first | decide | simp) (x_move rfl (fr.ev rfl)) ?_
  clear fr a; intro a fr
  refine fx_val (v := .pointer (some ⟨b1, 0, none⟩)) fr rfl rfl (by first | decide | simp) (x_extract rfl (fr.ev rfl) rfl) ?_
  clear fr a; intro a fr
  refine fx_val (v := .int .i64 0) fr rfl rfl (by first | decide | simp) (x_extract rfl (fr.ev rfl) rfl) ?_
  clear fr a; intro a fr
  refine fx_val (v := .pointer (some ⟨b1, 0, none⟩)) fr rfl rfl (by first | decide | simp) (x_assign rfl (fr.ev rfl)) ?_
  clear fr a; intro a fr
  refine fx_val (v := .int .i64 0) fr rfl rfl (by first | decide | simp) (x_assign rfl (fr.ev rfl)) ?_
  clear fr a; intro a fr
  refine wpList_nil ?_
  refine fx_next ?_
  refine wp_seq ?_
  refine wp_region_lit ?_  -- region 2
  refine fx_val (v := .pointer (some ⟨b1, 0, none⟩)) fr rfl rfl (by first | decide | simp) (x_move rfl (fr.ev rfl)) ?_
  clear fr a; intro a fr
  refine fx_val (v := .agg (lnE.arr (mkL 4 1))) fr rfl rfl (by first | decide | simp) (x_build (cells := lnE.arr (mkL 4 1)) rfl (by kernel_rfl)) ?_
  clear fr a; intro a fr
  refine fx_call fr rfl rfl (by first | decide | simp) (x_call (vs := [.pointer (some ⟨b1, 0, none⟩), .agg (lnE.arr (mkL 4 1))]) rfl rfl ⟨(fr.ev rfl), (fr.ev rfl), trivial⟩ Try.func21 nm21 rfl) (put_c (mkL 4 1) H3) ?_
  clear fr a
  rintro v w10 ⟨rfl, Fp7, H8, hN11, mv9⟩ a fr
  have gA_Fp7 := gA_movedP hF mv9 gA_Fp2
  replace hF := hF.locP hN11 gA_Fp2
  clear H3
  rw [show putL 2 2 ([]) (mkL 4 1) = [wl4] from ws1.2] at H8
  rw [show putE 2 2 ([]) (mkL 4 1) = 0 from ws1.1] at fr
  refine fx_val (v := .int .i64 0) fr rfl rfl (by first | decide | simp) (x_assign rfl (fr.ev rfl)) ?_
  clear fr a; intro a fr
  refine wpList_nil ?_
  refine fx_next ?_
  refine wp_seq ?_
  refine wp_region_lit ?_  -- region 3
  refine fx_val (v := .pointer (some ⟨b1, 0, none⟩)) fr rfl rfl (by first | decide | simp) (x_move rfl (fr.ev rfl)) ?_
  clear fr a; intro a fr
  refine fx_val (v := .agg (lnE.arr (mkL 6 3))) fr rfl rfl (by first | decide | simp) (x_build (cells := lnE.arr (mkL 6 3)) rfl (by kernel_rfl)) ?_
  clear fr a; intro a fr
  refine fx_call fr rfl rfl (by first | decide | simp) (x_call (vs := [.pointer (some ⟨b1, 0, none⟩), .agg (lnE.arr (mkL 6 3))]) rfl rfl ⟨(fr.ev rfl), (fr.ev rfl), trivial⟩ Try.func21 nm21 rfl) (put_c (mkL 6 3) H8) ?_
  clear fr a
  rintro v w15 ⟨rfl, Fp12, H13, hN16, mv14⟩ a fr
  have gA_Fp12 := gA_movedP hF mv14 gA_Fp7
  replace hF := hF.locP hN16 gA_Fp7
  clear H8
  rw [show putL 2 2 ([wl4]) (mkL 6 3) = [wl4, wl6] from ws2.2] at H13
  rw [show putE 2 2 ([wl4]) (mkL 6 3) = 0 from ws2.1] at fr
  refine fx_val (v := .int .i64 0) fr rfl rfl (by first | decide | simp) (x_assign rfl (fr.ev rfl)) ?_
  clear fr a; intro a fr
  refine wpList_nil ?_
  refine fx_next ?_
  refine wp_seq ?_
  refine wp_region_lit ?_  -- region 4
  refine fx_val (v := .pointer (some ⟨b1, 0, none⟩)) fr rfl rfl (by first | decide | simp) (x_move rfl (fr.ev rfl)) ?_
  clear fr a; intro a fr
  refine fx_val (v := .agg (lnE.arr (mkL 8 2))) fr rfl rfl (by first | decide | simp) (x_build (cells := lnE.arr (mkL 8 2)) rfl (by kernel_rfl)) ?_
  clear fr a; intro a fr
  refine fx_call fr rfl rfl (by first | decide | simp) (x_call (vs := [.pointer (some ⟨b1, 0, none⟩), .agg (lnE.arr (mkL 8 2))]) rfl rfl ⟨(fr.ev rfl), (fr.ev rfl), trivial⟩ Try.func21 nm21 rfl) (put_c (mkL 8 2) H13) ?_
  clear fr a
  rintro v w20 ⟨rfl, Fp17, H18, hN21, mv19⟩ a fr
  have gA_Fp17 := gA_movedP hF mv19 gA_Fp12
  replace hF := hF.locP hN21 gA_Fp12
  clear H13
  rw [show putL 2 2 ([wl4, wl6]) (mkL 8 2) = [wl4, wl6] from ws3.2] at H18
  rw [show putE 2 2 ([wl4, wl6]) (mkL 8 2) = 200 from ws3.1] at fr
  refine fx_val (v := .int .i64 200) fr rfl rfl (by first | decide | simp) (x_assign rfl (fr.ev rfl)) ?_
  clear fr a; intro a fr
  refine wpList_nil ?_
  refine fx_next ?_
  refine wp_seq ?_
  refine wp_region_lit ?_  -- region 5
  refine fx_val (v := .pointer (some ⟨b1, 0, none⟩)) fr rfl rfl (by first | decide | simp) (x_move rfl (fr.ev rfl)) ?_
  clear fr a; intro a fr
  refine fx_call fr rfl rfl (by first | decide | simp) (x_call (vs := [.pointer (some ⟨b1, 0, none⟩), .int .u32 8, .int .i64 (-1)]) rfl rfl ⟨(fr.ev rfl), rfl, rfl, trivial⟩ Try.func15 nm15 rfl) (victim_c 8 (by omega) (-1) H18) ?_
  clear fr a
  rintro v w22 ⟨rfl, hN23⟩ a fr
  replace H18 := H18.new hN23
  replace hF := hF.trNew hN23
  rw [show vicL 2 2 ([wl4, wl6]) 8 (-1) = some wl6 from ws4] at fr
  simp only [Option.getD_some, Option.isSome_some] at fr
  refine fx_val (v := .tuple #[.agg (lnE.arr wl6), .bool true]) fr rfl rfl (by first | decide | simp) (x_move rfl (fr.ev rfl)) ?_
  clear fr a; intro a fr
  refine fx_val (v := .agg (lnE.arr wl6)) fr rfl rfl (by first | decide | simp) (x_extract rfl (fr.ev rfl) rfl) ?_
  clear fr a; intro a fr
  refine fx_val (v := .bool true) fr rfl rfl (by first | decide | simp) (x_extract rfl (fr.ev rfl) rfl) ?_
  clear fr a; intro a fr
  refine fx_new fr rfl rfl (by first | decide | simp) (x_alloc (z := .agg (#[.int .u32 0, .int .i64 0, .int .u8 0, .int .u8 0, .int .u8 0, .int .u8 0, .int .u8 0, .int .u8 0, .int .u8 0, .int .u8 0, .int .u8 0, .int .u8 0, .int .u8 0, .int .u8 0, .int .u8 0, .int .u8 0, .int .u8 0, .int .u8 0])) (cs := lnE.arr ln0) rfl (by kernel_rfl) rfl) ?_
  clear fr a
  intro b24 w25 hN26 B27 hb28 a fr
  have ap_Fp17_b24 : ¬ Fp17 b24 := H18.apart hb28
  have g_b24 := Nat.le_trans hF.size hb28
  replace H18 := H18.new hN26
  replace hF := hF.trNew hN26
  refine fx_storeS sz39 rfl rfl rfl (fr.ev rfl) (fr.ev rfl) (lnE.all _) B27 (lnE.size _) (lnE.size _) fun w29 hO30 hBq => ?_
  replace H18 := H18.only hO30 (ne1P ap_Fp17_b24)
  replace hF := hF.loc hO30 (.inr g_b24)
  replace B27 := hBq
  clear hBq
  refine fx_val (v := .bool true) fr rfl rfl (by first | decide | simp) (x_assign rfl (fr.ev rfl)) ?_
  clear fr a; intro a fr
  refine wpList_nil ?_
  refine fx_next ?_
  refine wp_seq ?_
  refine wp_region_lit ?_  -- region 6
  refine fx_val (v := .int .i64 0) fr rfl rfl (by first | decide | simp) (x_move rfl (fr.ev rfl)) ?_
  clear fr a; intro a fr
  refine fx_call fr rfl rfl (by first | decide | simp) (x_call (vs := [.int .i64 0]) rfl rfl ⟨(fr.ev rfl), trivial⟩ Try.func20 nm20 rfl) (num_c 0 _) ?_
  clear fr a
  rintro v w9 ⟨rfl, hw9⟩ a fr
  obtain rfl := hw9.symm
  refine fx_val (v := .int .i64 0) fr rfl rfl (by first | decide | simp) (x_move rfl (fr.ev rfl)) ?_
  clear fr a; intro a fr
  refine fx_call fr rfl rfl (by first | decide | simp) (x_call (vs := [.int .i64 0]) rfl rfl ⟨(fr.ev rfl), trivial⟩ Try.func20 nm20 rfl) (num_c 0 _) ?_
  clear fr a
  rintro v w9 ⟨rfl, hw9⟩ a fr
  obtain rfl := hw9.symm
  refine fx_val (v := .int .i64 0) fr rfl rfl (by first | decide | simp) (x_add rfl (fr.ev rfl) (fr.ev rfl) rfl) ?_
  clear fr a; intro a fr
  refine fx_val (v := .int .i64 0) fr rfl rfl (by first | decide | simp) (x_move rfl (fr.ev rfl)) ?_
  clear fr a; intro a fr
  refine fx_call fr rfl rfl (by first | decide | simp) (x_call (vs := [.int .i64 0]) rfl rfl ⟨(fr.ev rfl), trivial⟩ Try.func20 nm20 rfl) (num_c 0 _) ?_
  clear fr a
  rintro v w9 ⟨rfl, hw9⟩ a fr
  obtain rfl := hw9.symm
  refine fx_val (v := .int .i64 0) fr rfl rfl (by first | decide | simp) (x_add rfl (fr.ev rfl) (fr.ev rfl) rfl) ?_
  clear fr a; intro a fr
  refine fx_val (v := .bool true) fr rfl rfl (by first | decide | simp) (x_eql rfl (fr.ev rfl) rfl rfl) ?_
  clear fr a; intro a fr
  refine fx_val (v := .bool true) fr rfl rfl (by first | decide | simp) (x_move rfl (fr.ev rfl)) ?_
  clear fr a; intro a fr
  refine fx_val (v := .int .i64 200) fr (fr.want rfl rfl rfl) rfl (by first | decide | simp) (x_move rfl (fr.ev rfl)) ?_
  clear fr a; intro a fr
  refine fx_call fr (fr.want rfl rfl rfl) rfl (by first | decide | simp) (x_call (vs := [.int .i64 200]) rfl rfl ⟨(fr.ev rfl), trivial⟩ Try.func20 nm20 rfl) (num_c 200 _) ?_
  clear fr a
  rintro v w9 ⟨rfl, hw9⟩ a fr
  obtain rfl := hw9.symm
  refine fx_val (v := .bool true) fr (fr.want rfl rfl rfl) rfl (by first | decide | simp) (x_eql rfl (fr.ev rfl) rfl rfl) ?_
  clear fr a; intro a fr
  refine fx_val (v := .bool true) fr rfl rfl (by first | decide | simp) (x_pick_t rfl (fr.ev rfl) (fr.ev rfl)) ?_
  clear fr a; intro a fr
  refine fx_val (v := .bool true) fr rfl rfl (by first | decide | simp) (x_move rfl (fr.ev rfl)) ?_
  clear fr a; intro a fr
  refine fx_val (v := .bool true) fr (fr.want rfl rfl rfl) rfl (by first | decide | simp) (x_move rfl (fr.ev rfl)) ?_
  clear fr a; intro a fr
  refine fx_val (v := .bool true) fr rfl rfl (by first | decide | simp) (x_pick_t rfl (fr.ev rfl) (fr.ev rfl)) ?_
  clear fr a; intro a fr
  refine fx_val (v := .bool true) fr rfl rfl (by first | decide | simp) (x_move rfl (fr.ev rfl)) ?_
  clear fr a; intro a fr
  refine fx_val (v := .pointer (some ⟨b24, 0, none⟩)) fr (fr.want rfl rfl rfl) rfl (by first | decide | simp) (x_fieldAddr fo39_0 rfl (fr.ev rfl) rfl) ?_
  clear fr a; intro a fr
  refine fx_val (v := .int .u32 6) fr (fr.want rfl rfl rfl) rfl (by first | decide | simp) (x_load1 pl33 rfl (fr.ev rfl) (B27.cell 0 rfl)) ?_
  clear fr a; intro a fr
  refine fx_val (v := .bool true) fr (fr.want rfl rfl rfl) rfl (by first | decide | simp) (x_eql rfl (fr.ev rfl) rfl rfl) ?_
  clear fr a; intro a fr
  refine fx_val (v := .bool true) fr rfl rfl (by first | decide | simp) (x_pick_t rfl (fr.ev rfl) (fr.ev rfl)) ?_
  clear fr a; intro a fr
  refine fx_val (v := .bool true) fr rfl rfl (by first | decide | simp) (x_move rfl (fr.ev rfl)) ?_
  clear fr a; intro a fr
  refine fx_val (v := .pointer (some ⟨b1, 0, none⟩)) fr (fr.want rfl rfl rfl) rfl (by first | decide | simp) (x_move rfl (fr.ev rfl)) ?_
  clear fr a; intro a fr
  refine fx_call fr (fr.want rfl rfl rfl) rfl (by first | decide | simp) (x_call (vs := [.pointer (some ⟨b1, 0, none⟩), .int .u32 4]) rfl rfl ⟨(fr.ev rfl), rfl, trivial⟩ Try.func22 nm22 rfl) (drop_c 4 (by omega) H18) ?_
  clear fr a
  rintro v w42 ⟨rfl, Fp39, H40, hN43, mv41⟩ a fr
  have ap_Fp39_b24 : ¬ Fp39 b24 := moved_apartP mv41 ap_Fp17_b24 B27.lt
  have gA_Fp39 := gA_movedP hF mv41 gA_Fp17
  replace B27 := B27.only hN43 ap_Fp17_b24
  replace hF := hF.locP hN43 gA_Fp17
  clear H18
  rw [show dropL ([wl4, wl6]) 4 = [wl6] from ws5.2] at H40
  rw [show (getN ([wl4, wl6]) 4).isSome = true from ws5.1] at fr
  refine fx_val (v := .bool true) fr rfl rfl (by first | decide | simp) (x_pick_t rfl (fr.ev rfl) (fr.ev rfl)) ?_
  clear fr a; intro a fr
  refine fx_val (v := .bool true) fr rfl rfl (by first | decide | simp) (x_move rfl (fr.ev rfl)) ?_
  clear fr a; intro a fr
  refine fx_val (v := .pointer (some ⟨b1, 0, none⟩)) fr (fr.want rfl rfl rfl) rfl (by first | decide | simp) (x_move rfl (fr.ev rfl)) ?_
  clear fr a; intro a fr
  refine fx_call fr (fr.want rfl rfl rfl) rfl (by first | decide | simp) (x_call (vs := [.pointer (some ⟨b1, 0, none⟩), .int .u32 4]) rfl rfl ⟨(fr.ev rfl), rfl, trivial⟩ Try.func22 nm22 rfl) (drop_c 4 (by omega) H40) ?_
  clear fr a
  rintro v w47 ⟨rfl, Fp44, H45, hN48, mv46⟩ a fr
  have ap_Fp44_b24 : ¬ Fp44 b24 := moved_apartP mv46 ap_Fp39_b24 B27.lt
  have gA_Fp44 := gA_movedP hF mv46 gA_Fp39
  replace B27 := B27.only hN48 ap_Fp39_b24
  replace hF := hF.locP hN48 gA_Fp39
  clear H40
  rw [show dropL ([wl6]) 4 = [wl6] from ws6.2] at H45
  rw [show (getN ([wl6]) 4).isSome = false from ws6.1] at fr
  refine fx_val (v := .bool true) fr (fr.want rfl rfl rfl) rfl (by first | decide | simp) (x_not rfl (fr.ev rfl) rfl) ?_
  clear fr a; intro a fr
  refine fx_val (v := .bool true) fr rfl rfl (by first | decide | simp) (x_pick_t rfl (fr.ev rfl) (fr.ev rfl)) ?_
  clear fr a; intro a fr
  refine fx_val (v := .bool true) fr rfl rfl (by first | decide | simp) (x_move rfl (fr.ev rfl)) ?_
  clear fr a; intro a fr
  refine fx_val (v := .pointer (some ⟨b1, 0, none⟩)) fr (fr.want rfl rfl rfl) rfl (by first | decide | simp) (x_move rfl (fr.ev rfl)) ?_
  clear fr a; intro a fr
  refine fx_val (v := .agg (lnE.arr (mkL 8 2))) fr (fr.want rfl rfl rfl) rfl (by first | decide | simp) (x_build (cells := lnE.arr (mkL 8 2)) rfl (by kernel_rfl)) ?_
  clear fr a; intro a fr
  refine fx_call fr (fr.want rfl rfl rfl) rfl (by first | decide | simp) (x_call (vs := [.pointer (some ⟨b1, 0, none⟩), .agg (lnE.arr (mkL 8 2))]) rfl rfl ⟨(fr.ev rfl), (fr.ev rfl), trivial⟩ Try.func21 nm21 rfl) (put_c (mkL 8 2) H45) ?_
  clear fr a
  rintro v w52 ⟨rfl, Fp49, H50, hN53, mv51⟩ a fr
  have ap_Fp49_b24 : ¬ Fp49 b24 := moved_apartP mv51 ap_Fp44_b24 B27.lt
  have gA_Fp49 := gA_movedP hF mv51 gA_Fp44
  replace B27 := B27.only hN53 ap_Fp44_b24
  replace hF := hF.locP hN53 gA_Fp44
  clear H45
  rw [show putL 2 2 ([wl6]) (mkL 8 2) = [wl6, wl8] from ws7.2] at H50
  rw [show putE 2 2 ([wl6]) (mkL 8 2) = 0 from ws7.1] at fr
  refine fx_call fr (fr.want rfl rfl rfl) rfl (by first | decide | simp) (x_call (vs := [.int .i64 0]) rfl rfl ⟨(fr.ev rfl), trivial⟩ Try.func20 nm20 rfl) (num_c 0 _) ?_
  clear fr a
  rintro v w9 ⟨rfl, hw9⟩ a fr
  obtain rfl := hw9.symm
  refine fx_val (v := .bool true) fr (fr.want rfl rfl rfl) rfl (by first | decide | simp) (x_eql rfl (fr.ev rfl) rfl rfl) ?_
  clear fr a; intro a fr
  refine fx_val (v := .bool true) fr rfl rfl (by first | decide | simp) (x_pick_t rfl (fr.ev rfl) (fr.ev rfl)) ?_
  clear fr a; intro a fr
  refine fx_val (v := .bool true) fr rfl rfl (by first | decide | simp) (x_move rfl (fr.ev rfl)) ?_
  clear fr a; intro a fr
  refine fx_val (v := .pointer (some ⟨b1, 0, none⟩)) fr (fr.want rfl rfl rfl) rfl (by first | decide | simp) (x_move rfl (fr.ev rfl)) ?_
  clear fr a; intro a fr
  refine fx_call fr (fr.want rfl rfl rfl) rfl (by first | decide | simp) (x_call (vs := [.pointer (some ⟨b1, 0, none⟩)]) rfl rfl ⟨(fr.ev rfl), trivial⟩ Try.func25 nm25 rfl) (len_c H50 (by decide)) ?_
  clear fr a
  rintro v w56 ⟨rfl, hN57⟩ a fr
  replace B27 := B27.new hN57
  replace H50 := H50.new hN57
  replace hF := hF.trNew hN57
  refine fx_val (v := .bool true) fr (fr.want rfl rfl rfl) rfl (by first | decide | simp) (x_eql rfl (fr.ev rfl) rfl rfl) ?_
  clear fr a; intro a fr
  refine fx_val (v := .bool true) fr rfl rfl (by first | decide | simp) (x_pick_t rfl (fr.ev rfl) (fr.ev rfl)) ?_
  clear fr a; intro a fr
  refine fx_val (v := .bool true) fr rfl rfl (by first | decide | simp) (x_assign rfl (fr.ev rfl)) ?_
  clear fr a; intro a fr
  refine wpList_nil ?_
  refine fx_next ?_
  refine wp_ret ?_
  refine fx_ret fr [.tmp 0] [.bool true] rfl ⟨rfl, trivial⟩ rfl ?_
  exact ⟨_, rfl, rfl, hF⟩
set_option maxRecDepth 100000 in
set_option maxHeartbeats 4000000 in
theorem is_c {w : World} {Fp : Nat → Prop} {b n : Nat} {ways : Int} {L : List Ln} (H : LinesAt w Fp b n ways L) {V : Option Addr} {vc : Nat} (hW : View lnE w V vc L) (hl : L.length ≤ 100000) : Calls Try.prog 13 #[.pointer (some ⟨b, 0, none⟩), .agg (#[.int .i64 ((n : Nat) : Int), .int .i64 ways, .slice V L.length vc])] w (Ret fun v w' => v = .bool true ∧ New w w') := by
  obtain ⟨hn1, hn2, hw1, hw2⟩ := H.bd
  have hF := Only.refl (fun _ => False) w
  refine fx_enter Try.func13 rfl (N := (50, [])) (T := [(0, .pointer (some ⟨b, 0, none⟩)), (1, .agg (#[.int .i64 ((n : Nat) : Int), .int .i64 ways, .slice V L.length vc]))]) rfl (show 2 ≤ 50 by decide) ⟨rfl, rfl, trivial⟩ fun a fr => ?_
  refine wp_seq ?_
  refine wp_region_lit ?_  -- region 0
  refine fx_new fr rfl rfl (by first | decide | simp) (x_box (cs := #[.int .i64 ((n : Nat) : Int), .int .i64 ways, .slice V L.length vc]) rfl (fr.ev rfl) rfl) ?_
  clear fr a
  intro b1 w2 hN3 B4 hb5 a fr
  have ap_Fp_b1 : ¬ Fp b1 := H.apart hb5
  have ap_V_b1 : Apart V b1 := hW.apart hb5
  have g_b1 := Nat.le_trans hF.size hb5
  replace H := H.new hN3
  replace hW := hW.new hN3
  replace hF := hF.trNew hN3
  refine fx_val (v := .bool false) fr rfl rfl (by first | decide | simp) (x_assign rfl rfl) ?_
  clear fr a; intro a fr
  refine wpList_nil ?_
  refine fx_next ?_
  refine wp_seq ?_
  refine wp_seq ?_
  refine wp_region_lit ?_  -- region 1
  refine fx_val (v := .int .i64 0) fr rfl rfl (by first | decide | simp) (x_assign rfl rfl) ?_
  clear fr a; intro a fr
  refine wpList_nil ?_
  refine fx_next ?_
  refine wp_block ?_
  refine fx_loop (fun nM a wL => ∃ i : Nat, nM = L.length - i ∧ Fr (50, []) [(0, .pointer (some ⟨b, 0, none⟩)), (3, .pointer (some ⟨b1, 0, none⟩)), (4, .bool false), (5, .int .i64 ((i : Nat) : Int))] a ∧ Only (fun _ => False) w wL ∧ LinesAt wL Fp b n ways L ∧ View lnE wL V vc L ∧ Blk wL b1 28 (#[.int .i64 ((n : Nat) : Int), .int .i64 ways, .slice V L.length vc]) ∧ i ≤ L.length) (n0 := _) ⟨0, rfl, fr.sub ⟨rfl, rfl, rfl, rfl, trivial⟩, hF, H, hW, B4, by omega⟩ ?_
  rintro n7 a w6 ⟨i, rfl, fr, hF, H, hW, B4, hi⟩
  refine wp_seq ?_
  refine wp_seq ?_
  refine wp_region_lit ?_  -- region 2
  refine fx_val (v := .int .i64 ((i : Nat) : Int)) fr rfl rfl (by first | decide | simp) (x_move rfl (fr.ev rfl)) ?_
  clear fr a; intro a fr
  refine fx_val (v := .pointer (some ⟨b1, 2, none⟩)) fr rfl rfl (by first | decide | simp) (x_fieldAddr fo28_2 rfl (fr.ev rfl) rfl) ?_
  clear fr a; intro a fr
  refine fx_val (v := .slice V L.length vc) fr rfl rfl (by first | decide | simp) (x_load1 pl26 rfl (fr.ev rfl) (B4.cell 2 rfl)) ?_
  clear fr a; intro a fr
  refine fx_val (v := .int .i64 ((L.length : Nat) : Int)) fr rfl rfl (by first | decide | simp) (x_len Try.underlying26 rfl (fr.ev rfl)) ?_
  clear fr a; intro a fr
  refine fx_val (v := .bool (decide (((i : Nat) : Int) < ((L.length : Nat) : Int)))) fr rfl rfl (by first | decide | simp) (x_lss rfl (fr.ev rfl) (fr.ev rfl) rfl) ?_
  clear fr a; intro a fr
  refine wpList_nil ?_
  refine fx_next ?_
  refine fx_cond fr rfl (fun hc8 => ?_) (fun hc8 => ?_)
  · skip
    have hc8 := of_decide_eq_true hc8
    refine wp_skip ?_
    refine fx_next ?_
    refine wp_seq ?_
    refine wp_block ?_
    refine wp_seq ?_
    have hxn := (L.getD i ln0).hn
    refine wp_region_lit ?_  -- region 4
    refine fx_val (v := .pointer (some ⟨b, 0, none⟩)) fr rfl rfl (by first | decide | simp) (x_move rfl (fr.ev rfl)) ?_
    clear fr a; intro a fr
    refine fx_val (v := .pointer (some ⟨b1, 2, none⟩)) fr rfl rfl (by first | decide | simp) (x_fieldAddr fo28_2 rfl (fr.ev rfl) rfl) ?_
    clear fr a; intro a fr
    refine fx_val (v := .slice V L.length vc) fr rfl rfl (by first | decide | simp) (x_load1 pl26 rfl (fr.ev rfl) (B4.cell 2 rfl)) ?_
    clear fr a; intro a fr
    refine fx_val (v := .int .i64 ((i : Nat) : Int)) fr rfl rfl (by first | decide | simp) (x_move rfl (fr.ev rfl)) ?_
    clear fr a; intro a fr
    obtain ⟨g9, o10, hA11⟩ := (hW).some_ (by omega)
    refine fx_val (v := .pointer (some ⟨g9, o10 + i * 18, none⟩)) fr rfl rfl (by first | decide | simp) (x_indexV Try.underlying26 sz39 rfl (fr.ev rfl) hA11 (fr.ev rfl) (by omega) rfl) ?_
    clear fr a; intro a fr
    refine fx_val (v := .pointer (some ⟨g9, o10 + i * 18, none⟩)) fr rfl rfl (by first | decide | simp) (x_fieldAddr fo39_0 rfl (fr.ev rfl) rfl) ?_
    clear fr a; intro a fr
    refine fx_val (v := .int .u32 ((L.getD i ln0).num)) fr rfl rfl (by first | decide | simp) (x_load1 pl33 rfl (fr.ev rfl) (range_cell ((hW).elem hA11 i ln0 (by omega)) 0 rfl rfl)) ?_
    clear fr a; intro a fr
    refine fx_call fr rfl rfl (by first | decide | simp) (x_call (vs := [.pointer (some ⟨b, 0, none⟩), .int .u32 ((L.getD i ln0).num)]) rfl rfl ⟨(fr.ev rfl), (fr.ev rfl), trivial⟩ Try.func14 nm14 rfl) (find_c ((L.getD i ln0).num) (by omega) H) ?_
    clear fr a
    rintro v w12 ⟨rfl, hN13⟩ a fr
    replace H := H.new hN13
    replace hW := hW.new hN13
    replace B4 := B4.new hN13
    replace hF := hF.trNew hN13
    rw [show getN L ((L.getD i ln0).num) = some (L.getD i ln0) from uniq_get H.uniq (by omega)] at fr
    simp only [Option.getD_some, Option.isSome_some] at fr
    refine fx_val (v := .tuple #[.agg (lnE.arr (L.getD i ln0)), .bool true]) fr rfl rfl (by first | decide | simp) (x_move rfl (fr.ev rfl)) ?_
    clear fr a; intro a fr
    refine fx_val (v := .agg (lnE.arr (L.getD i ln0))) fr rfl rfl (by first | decide | simp) (x_extract rfl (fr.ev rfl) rfl) ?_
    clear fr a; intro a fr
    refine fx_val (v := .bool true) fr rfl rfl (by first | decide | simp) (x_extract rfl (fr.ev rfl) rfl) ?_
    clear fr a; intro a fr
    refine fx_new fr rfl rfl (by first | decide | simp) (x_alloc (z := .agg (#[.int .u32 0, .int .i64 0, .int .u8 0, .int .u8 0, .int .u8 0, .int .u8 0, .int .u8 0, .int .u8 0, .int .u8 0, .int .u8 0, .int .u8 0, .int .u8 0, .int .u8 0, .int .u8 0, .int .u8 0, .int .u8 0, .int .u8 0, .int .u8 0])) (cs := lnE.arr ln0) rfl (by kernel_rfl) rfl) ?_
    clear fr a
    intro b14 w15 hN16 B17 hb18 a fr
    have ap_Fp_b14 : ¬ Fp b14 := H.apart hb18
    have ap_V_b14 : Apart V b14 := hW.apart hb18
    have ne_b1_b14 : NE b1 b14 := NE.mk (Nat.lt_of_lt_of_le B4.lt hb18)
    have g_b14 := Nat.le_trans hF.size hb18
    replace H := H.new hN16
    replace hW := hW.new hN16
    replace B4 := B4.new hN16
    replace hF := hF.trNew hN16
    refine fx_storeS sz39 rfl rfl rfl (fr.ev rfl) (fr.ev rfl) (lnE.all _) B17 (lnE.size _) (lnE.size _) fun w19 hO20 hBq => ?_
    replace H := H.only hO20 (ne1P ap_Fp_b14)
    replace hW := hW.only hO20 (Apart.ne1 ap_V_b14)
    replace B4 := B4.only hO20 (by first | exact ne_b1_b14 | exact ne_b14_b1.symm | (show ¬ b1 = b14; omega))
    replace hF := hF.loc hO20 (.inr g_b14)
    replace B17 := hBq
    clear hBq
    refine fx_val (v := .bool true) fr rfl rfl (by first | decide | simp) (x_assign rfl (fr.ev rfl)) ?_
    clear fr a; intro a fr
    refine wpList_nil ?_
    refine fx_next ?_
    refine wp_seq ?_
    refine fx_held (n := 11) (fun w => LinesAt w Fp b n ways L ∧ View lnE w V vc L ∧ Blk w b1 28 (#[.int .i64 ((n : Nat) : Int), .int .i64 ways, .slice V L.length vc]) ∧ Blk w b14 39 (lnE.arr (L.getD i ln0)) ∧ True) (by kernel_rfl) rfl ?_  -- region 5
    intro w21 hN22
    replace H := H.new hN22
    replace hW := hW.new hN22
    replace B4 := B4.new hN22
    replace B17 := B17.new hN22
    replace hF := hF.trNew hN22
    refine fx_take (i := 0) (v := .agg (lnE.arr (L.getD i ln0))) fr rfl (by kernel_rfl) rfl rfl (by first | decide | simp) (fun _ _ _ h => h) (fun _ ⟨H, hW, B4, B17, _⟩ => x_loadE (E := lnE) ag39 rfl rfl (fr.ev rfl) (B17.rangeE lnE)) ⟨H, hW, B4, B17, trivial⟩ ?_
    clear fr a; intro a fr
    refine fx_take (i := 1) (v := .pointer (some ⟨b1, 2, none⟩)) fr rfl (by kernel_rfl) rfl rfl (by first | decide | simp) (fun _ _ _ h => h) (fun _ ⟨H, hW, B4, B17, _⟩ => x_fieldAddr fo28_2 rfl (fr.ev rfl) rfl) ⟨H, hW, B4, B17, trivial⟩ ?_
    clear fr a; intro a fr
    refine fx_take (i := 2) (v := .slice V L.length vc) fr rfl (by kernel_rfl) rfl rfl (by first | decide | simp) (fun _ _ _ h => h) (fun _ ⟨H, hW, B4, B17, _⟩ => x_load1 pl26 rfl (fr.ev rfl) (B4.cell 2 rfl)) ⟨H, hW, B4, B17, trivial⟩ ?_
    clear fr a; intro a fr
    refine fx_take (i := 3) (v := .int .i64 ((i : Nat) : Int)) fr rfl (by kernel_rfl) rfl rfl (by first | decide | simp) (fun _ _ _ h => h) (fun _ ⟨H, hW, B4, B17, _⟩ => x_move rfl (fr.ev rfl)) ⟨H, hW, B4, B17, trivial⟩ ?_
    clear fr a; intro a fr
    refine fx_take (i := 4) (v := .pointer (some ⟨g9, o10 + i * 18, none⟩)) fr rfl (by kernel_rfl) rfl rfl (by first | decide | simp) (fun _ _ _ h => h) (fun _ ⟨H, hW, B4, B17, _⟩ => x_indexV Try.underlying26 sz39 rfl (fr.ev rfl) hA11 (fr.ev rfl) (by omega) rfl) ⟨H, hW, B4, B17, trivial⟩ ?_
    clear fr a; intro a fr
    refine fx_take (i := 5) (v := .agg (lnE.arr (L.getD i ln0))) fr rfl (by kernel_rfl) rfl rfl (by first | decide | simp) (fun _ _ _ h => h) (fun _ ⟨H, hW, B4, B17, _⟩ => x_loadE (E := lnE) ag39 rfl rfl (fr.ev rfl) ((hW).elem hA11 i ln0 (by omega))) ⟨H, hW, B4, B17, trivial⟩ ?_
    clear fr a; intro a fr
    refine fx_take (i := 6) (v := .bool false) fr rfl (by kernel_rfl) rfl rfl (by first | decide | simp) (fun _ _ _ h => h) (fun _ ⟨H, hW, B4, B17, _⟩ => x_neE lnER rfl rfl (fr.ev rfl) (fr.ev rfl) (by simp)) ⟨H, hW, B4, B17, trivial⟩ ?_
    clear fr a; intro a fr
    refine fx_take (i := 7) (v := .bool false) fr rfl (by kernel_rfl) rfl rfl (by first | decide | simp) (fun _ _ _ h => h) (fun _ ⟨H, hW, B4, B17, _⟩ => x_move rfl (fr.ev rfl)) ⟨H, hW, B4, B17, trivial⟩ ?_
    clear fr a; intro a fr
    refine fx_take (i := 8) (v := .bool true) fr rfl (by kernel_rfl) (fr.want rfl rfl rfl) rfl (by first | decide | simp) (fun _ _ _ h => h) (fun _ ⟨H, hW, B4, B17, _⟩ => x_move rfl (fr.ev rfl)) ⟨H, hW, B4, B17, trivial⟩ ?_
    clear fr a; intro a fr
    refine fx_take (i := 9) (v := .bool false) fr rfl (by kernel_rfl) (fr.want rfl rfl rfl) rfl (by first | decide | simp) (fun _ _ _ h => h) (fun _ ⟨H, hW, B4, B17, _⟩ => x_not rfl (fr.ev rfl) rfl) ⟨H, hW, B4, B17, trivial⟩ ?_
    clear fr a; intro a fr
    refine fx_take (i := 10) (v := .bool false) fr rfl (by kernel_rfl) rfl rfl (by first | decide | simp) (fun _ _ _ h => h) (fun _ ⟨H, hW, B4, B17, _⟩ => x_pick_f rfl (fr.ev rfl) (fr.ev rfl)) ⟨H, hW, B4, B17, trivial⟩ ?_
    clear fr a; intro a fr
    refine fx_hdone (by kernel_rfl) ?_
    refine fx_next ?_
    refine fx_cond_f fr rfl ?_
    refine wp_skip ?_
    refine fx_blk ?_
    refine fx_next ?_
    refine wp_region_lit ?_  -- region 3
    refine fx_val (v := .int .i64 ((i : Nat) : Int)) fr rfl rfl (by first | decide | simp) (x_move rfl (fr.ev rfl)) ?_
    clear fr a; intro a fr
    refine fx_val (v := .int .i64 ((i + 1 : Nat) : Int)) fr rfl rfl (by first | decide | simp) (x_add rfl (fr.ev rfl) rfl (i64w (r := ((i + 1 : Nat) : Int)) (by omega) (by omega))) ?_
    clear fr a; intro a fr
    refine fx_val (v := .int .i64 ((i + 1 : Nat) : Int)) fr rfl rfl (by first | decide | simp) (x_assign rfl (fr.ev rfl)) ?_
    clear fr a; intro a fr
    refine wpList_nil ?_
    refine fx_next ?_
    exact ⟨_, by omega, (i + 1), rfl, fr.sub ⟨rfl, rfl, rfl, rfl, trivial⟩, hF, H, hW, B4, by omega⟩
  · skip
    have hc8 := of_decide_eq_false hc8
    refine wp_exit ?_
    refine fx_xt ?_
    refine fx_xt ?_
    refine fx_xx ?_
    refine fx_next ?_
    refine wp_seq ?_
    refine fx_heldT (n := 13) (k := 13) (fun w => LinesAt w Fp b n ways L ∧ View lnE w V vc L ∧ Blk w b1 28 (#[.int .i64 ((n : Nat) : Int), .int .i64 ways, .slice V L.length vc]) ∧ True) (by kernel_rfl) (by kernel_rfl) rfl ?_  -- region 7
    intro w23 hN24
    replace H := H.new hN24
    replace hW := hW.new hN24
    replace B4 := B4.new hN24
    replace hF := hF.trNew hN24
    refine fx_take (i := 0) (v := .pointer (some ⟨b, 0, none⟩)) fr rfl (by kernel_rfl) rfl rfl (by first | decide | simp) (fun _ _ _ h => h) (fun _ ⟨H, hW, B4, _⟩ => x_move rfl (fr.ev rfl)) ⟨H, hW, B4, trivial⟩ ?_
    clear fr a; intro a fr
    refine fx_take (i := 2) (v := .agg (#[.int .i64 ((n : Nat) : Int), .int .i64 ways, .slice V L.length vc])) fr rfl (by kernel_rfl) rfl rfl (by first | decide | simp) (fun _ _ _ h => h) (fun _ ⟨H, hW, B4, _⟩ => x_loadS ag28 rfl (fr.ev rfl) rfl B4.range) ⟨H, hW, B4, trivial⟩ ?_
    clear fr a; intro a fr
    refine fx_one (i := 1) (by kernel_rfl) (fx_op rfl ?_)
    refine fx_call fr rfl rfl (by first | decide | simp) (x_call (vs := [.pointer (some ⟨b, 0, none⟩)]) rfl rfl ⟨(fr.ev rfl), trivial⟩ Try.func24 nm24 rfl) (lall_c H (by omega)) ?_
    clear fr a
    rintro v w29 ⟨A25, cap26, rfl, O27, hA28, hN30⟩ a fr
    have ap2_Fp_A25 : ∀ k, Fp k → inA A25 k → False := symP (new_apart2P hA28 fun _ hg => H.lt hg)
    have ap2_V_A25 : Apart2 V A25 := (new_apart2 hA28 fun _ hg => hW.lt hg).symm
    have ap_A25_b1 : Apart A25 b1 := new_apart hA28 B4.lt
    have gA_A25 := gA_new hF hA28
    replace H := H.new hN30
    replace hW := hW.new hN30
    replace B4 := B4.new hN30
    replace hF := hF.trNew hN30
    refine wpList_nil ?_
    refine ⟨⟨H, hW, B4, trivial⟩, ?_⟩
    refine fx_one (i := 3) (by kernel_rfl) (fx_op rfl ?_)
    refine fx_call fr rfl rfl (by first | decide | simp) (x_call (vs := [.agg (#[.int .i64 ((n : Nat) : Int), .int .i64 ways, .slice V L.length vc])]) rfl rfl ⟨(fr.ev rfl), trivial⟩ Try.func30 nm30 rfl) (rall_c (n := n) (ways := ways) (L := L) (hW) (by first | omega | decide) (by omega)) ?_
    clear fr a
    rintro v w35 ⟨A31, cap32, rfl, O33, hA34, hN36⟩ a fr
    have ap2_Fp_A31 : ∀ k, Fp k → inA A31 k → False := symP (new_apart2P hA34 fun _ hg => H.lt hg)
    have ap2_V_A31 : Apart2 V A31 := (new_apart2 hA34 fun _ hg => hW.lt hg).symm
    have ap_A31_b1 : Apart A31 b1 := new_apart hA34 B4.lt
    have ap2_A25_A31 : Apart2 A25 A31 := (new_apart2 hA34 fun _ hg => O27.lt hg).symm
    have gA_A31 := gA_new hF hA34
    replace H := H.new hN36
    replace hW := hW.new hN36
    replace B4 := B4.new hN36
    replace O27 := O27.new hN36
    replace hF := hF.trNew hN36
    refine wpList_nil ?_
    refine ⟨⟨H, hW, B4, trivial⟩, ?_⟩
    refine fx_one (i := 4) (by kernel_rfl) (fx_op rfl ?_)
    refine fx_call fr rfl rfl (by first | decide | simp) (x_call (vs := [.slice A25 ((allL n L).length) cap26, .slice A31 ((allL n L).length) cap32]) rfl rfl ⟨(fr.ev rfl), (fr.ev rfl), trivial⟩ Try.func29 nm29 rfl) (rsame_c (la := allL n L) (lb := allL n L) (O27.view) (O33.view)) ?_
    clear fr a
    rintro v w37 ⟨rfl, hN38⟩ a fr
    replace H := H.new hN38
    replace hW := hW.new hN38
    replace B4 := B4.new hN38
    replace O27 := O27.new hN38
    replace O33 := O33.new hN38
    replace hF := hF.trNew hN38
    rw [show decide (allL n L = allL n L) = true from decide_eq_true rfl] at fr
    refine wpList_nil ?_
    refine ⟨⟨H, hW, B4, trivial⟩, ?_⟩
    refine fx_take (i := 5) (v := .bool true) fr rfl (by kernel_rfl) rfl rfl (by first | decide | simp) (fun _ _ _ h => h) (fun _ ⟨H, hW, B4, _⟩ => x_move rfl (fr.ev rfl)) ⟨H, hW, B4, trivial⟩ ?_
    clear fr a; intro a fr
    refine fx_take (i := 6) (v := .pointer (some ⟨b, 0, none⟩)) fr rfl (by kernel_rfl) (fr.want rfl rfl rfl) rfl (by first | decide | simp) (fun _ _ _ h => h) (fun _ ⟨H, hW, B4, _⟩ => x_move rfl (fr.ev rfl)) ⟨H, hW, B4, trivial⟩ ?_
    clear fr a; intro a fr
    refine fx_take (i := 8) (v := .pointer (some ⟨b1, 2, none⟩)) fr rfl (by kernel_rfl) (fr.want rfl rfl rfl) rfl (by first | decide | simp) (fun _ _ _ h => h) (fun _ ⟨H, hW, B4, _⟩ => x_fieldAddr fo28_2 rfl (fr.ev rfl) rfl) ⟨H, hW, B4, trivial⟩ ?_
    clear fr a; intro a fr
    refine fx_take (i := 9) (v := .slice V L.length vc) fr rfl (by kernel_rfl) (fr.want rfl rfl rfl) rfl (by first | decide | simp) (fun _ _ _ h => h) (fun _ ⟨H, hW, B4, _⟩ => x_load1 pl26 rfl (fr.ev rfl) (B4.cell 2 rfl)) ⟨H, hW, B4, trivial⟩ ?_
    clear fr a; intro a fr
    refine fx_take (i := 10) (v := .int .i64 ((L.length : Nat) : Int)) fr rfl (by kernel_rfl) (fr.want rfl rfl rfl) rfl (by first | decide | simp) (fun _ _ _ h => h) (fun _ ⟨H, hW, B4, _⟩ => x_len Try.underlying26 rfl (fr.ev rfl)) ⟨H, hW, B4, trivial⟩ ?_
    clear fr a; intro a fr
    refine fx_one (i := 7) (by kernel_rfl) (fx_op rfl ?_)
    refine fx_call fr (fr.want rfl rfl rfl) rfl (by first | decide | simp) (x_call (vs := [.pointer (some ⟨b, 0, none⟩)]) rfl rfl ⟨(fr.ev rfl), trivial⟩ Try.func25 nm25 rfl) (len_c H (by omega)) ?_
    clear fr a
    rintro v w39 ⟨rfl, hN40⟩ a fr
    replace H := H.new hN40
    replace hW := hW.new hN40
    replace B4 := B4.new hN40
    replace O27 := O27.new hN40
    replace O33 := O33.new hN40
    replace hF := hF.trNew hN40
    refine wpList_nil ?_
    refine ⟨⟨H, hW, B4, trivial⟩, ?_⟩
    refine fx_take (i := 11) (v := .bool true) fr rfl (by kernel_rfl) (fr.want rfl rfl rfl) rfl (by first | decide | simp) (fun _ _ _ h => h) (fun _ ⟨H, hW, B4, _⟩ => x_eql rfl (fr.ev rfl) (fr.ev rfl) (by simp)) ⟨H, hW, B4, trivial⟩ ?_
    clear fr a; intro a fr
    refine fx_take (i := 12) (v := .bool true) fr rfl (by kernel_rfl) rfl rfl (by first | decide | simp) (fun _ _ _ h => h) (fun _ ⟨H, hW, B4, _⟩ => x_pick_t rfl (fr.ev rfl) (fr.ev rfl)) ⟨H, hW, B4, trivial⟩ ?_
    clear fr a; intro a fr
    refine fx_hdone (by kernel_rfl) ?_
    refine fx_tail ?_
    refine fx_val (v := .bool true) fr rfl rfl (by first | decide | simp) (x_assign rfl (fr.ev rfl)) ?_
    clear fr a; intro a fr
    refine wpList_nil ?_
    refine fx_next ?_
    refine wp_ret ?_
    refine fx_ret fr [.tmp 4] [.bool true] rfl ⟨rfl, trivial⟩ rfl ?_
    exact ⟨_, rfl, rfl, hF⟩
set_option maxRecDepth 100000 in
set_option maxHeartbeats 4000000 in
theorem played_c {w : World} {P : Option Addr} {cp : Nat} {la : List LAct} {n : Nat} {ways : Int} (hV : View actE w P cp la) (hr : rightB ((n : Nat) : Int) ways = true) (hlen : la.length ≤ 100) : Calls Try.prog 12 #[.int .i64 ((n : Nat) : Int), .int .i64 ways, .slice P la.length cp] w (Ret fun v w' => ∃ b Fp L V vc, v = .tuple #[.pointer (some ⟨b, 0, none⟩), .agg #[.int .i64 ((n : Nat) : Int), .int .i64 ways, .slice V L.length vc], .bool true] ∧ LinesAt w' Fp b n ways L ∧ View lnE w' V vc L ∧ L.length ≤ 100 ∧ (∀ g, Fp g → w.heap.size ≤ g) ∧ (∀ g, inA V g → w.heap.size ≤ g) ∧ (∀ k, Fp k → inA V k → False) ∧ New w w') := by
  have hVl := hV.len
  unfold maxLen at hVl
  have hrb := right_bd hr
  have hF := Only.refl (fun _ => False) w
  refine fx_enter Try.func12 rfl (N := (81, [])) (T := [(0, .int .i64 ((n : Nat) : Int)), (1, .int .i64 ways), (2, .slice P la.length cp)]) rfl (show 3 ≤ 81 by decide) ⟨rfl, rfl, rfl, trivial⟩ fun a fr => ?_
  refine wp_seq ?_
  refine wp_region_lit ?_  -- region 0
  refine fx_val (v := .pointer none) fr rfl rfl (by first | decide | simp) (x_assign rfl rfl) ?_
  clear fr a; intro a fr
  refine fx_new fr rfl rfl (by first | decide | simp) (x_alloc (z := .agg (#[.int .i64 0, .int .i64 0, .slice none 0 0])) (cs := #[.int .i64 0, .int .i64 0, .slice none 0 0]) rfl (by kernel_rfl) rfl) ?_
  clear fr a
  intro b1 w2 hN3 B4 hb5 a fr
  have ap_P_b1 : Apart P b1 := hV.apart hb5
  have g_b1 := Nat.le_trans hF.size hb5
  replace hV := hV.new hN3
  replace hF := hF.trNew hN3
  refine fx_val (v := .bool false) fr rfl rfl (by first | decide | simp) (x_assign rfl rfl) ?_
  clear fr a; intro a fr
  refine wpList_nil ?_
  refine fx_next ?_
  refine wp_seq ?_
  refine wp_region_lit ?_  -- region 1
  refine fx_val (v := .int .i64 ((n : Nat) : Int)) fr rfl rfl (by first | decide | simp) (x_move rfl (fr.ev rfl)) ?_
  clear fr a; intro a fr
  refine fx_val (v := .int .i64 ways) fr rfl rfl (by first | decide | simp) (x_move rfl (fr.ev rfl)) ?_
  clear fr a; intro a fr
  refine fx_call fr rfl rfl (by first | decide | simp) (x_call (vs := [.int .i64 ((n : Nat) : Int), .int .i64 ways]) rfl rfl ⟨(fr.ev rfl), (fr.ev rfl), trivial⟩ Try.func18 nm18 rfl) (new_yes n ways _ hr) ?_
  clear fr a
  rintro v w10 ⟨b6, Fp7, rfl, H8, hb9, hN11⟩ a fr
  have ap2_P_Fp7 : ∀ k, inA P k → Fp7 k → False := symP (new_apart2P hb9 fun _ hg => hV.lt hg)
  have ap_Fp7_b1 : ¬ Fp7 b1 := new_apartP hb9 B4.lt
  have gA_Fp7 := gA_newP hF hb9
  replace hV := hV.new hN11
  replace B4 := B4.new hN11
  replace hF := hF.trNew hN11
  refine fx_val (v := .tuple #[.pointer (some ⟨b6, 0, none⟩), .int .i64 0]) fr rfl rfl (by first | decide | simp) (x_move rfl (fr.ev rfl)) ?_
  clear fr a; intro a fr
  refine fx_val (v := .pointer (some ⟨b6, 0, none⟩)) fr rfl rfl (by first | decide | simp) (x_extract rfl (fr.ev rfl) rfl) ?_
  clear fr a; intro a fr
  refine fx_val (v := .int .i64 0) fr rfl rfl (by first | decide | simp) (x_extract rfl (fr.ev rfl) rfl) ?_
  clear fr a; intro a fr
  refine fx_val (v := .pointer (some ⟨b6, 0, none⟩)) fr rfl rfl (by first | decide | simp) (x_assign rfl (fr.ev rfl)) ?_
  clear fr a; intro a fr
  refine fx_val (v := .int .i64 0) fr rfl rfl (by first | decide | simp) (x_assign rfl (fr.ev rfl)) ?_
  clear fr a; intro a fr
  refine wpList_nil ?_
  refine fx_next ?_
  refine wp_seq ?_
  refine wp_region_lit ?_  -- region 2
  refine fx_val (v := .int .i64 ((n : Nat) : Int)) fr rfl rfl (by first | decide | simp) (x_move rfl (fr.ev rfl)) ?_
  clear fr a; intro a fr
  refine fx_val (v := .int .i64 ways) fr rfl rfl (by first | decide | simp) (x_move rfl (fr.ev rfl)) ?_
  clear fr a; intro a fr
  refine fx_val (v := .agg (#[.int .i64 ((n : Nat) : Int), .int .i64 ways, .slice none 0 0])) fr rfl rfl (by first | decide | simp) (x_build (cells := #[.int .i64 ((n : Nat) : Int), .int .i64 ways, .slice none 0 0]) rfl (by simp only [List.map_toArray, List.map_cons, List.map_nil, show a.eval (.tmp 23) = .int .i64 ((n : Nat) : Int) from fr.ev rfl, show a.eval (.tmp 24) = .int .i64 ways from fr.ev rfl]; kernel_rfl)) ?_
  clear fr a; intro a fr
  refine fx_new fr rfl rfl (by first | decide | simp) (x_alloc (z := .agg (#[.int .i64 0, .int .i64 0, .slice none 0 0])) (cs := #[.int .i64 0, .int .i64 0, .slice none 0 0]) rfl (by kernel_rfl) rfl) ?_
  clear fr a
  intro b12 w13 hN14 B15 hb16 a fr
  have ap_P_b12 : Apart P b12 := hV.apart hb16
  have ne_b1_b12 : NE b1 b12 := NE.mk (Nat.lt_of_lt_of_le B4.lt hb16)
  have ap_Fp7_b12 : ¬ Fp7 b12 := H8.apart hb16
  have g_b12 := Nat.le_trans hF.size hb16
  replace hV := hV.new hN14
  replace B4 := B4.new hN14
  replace H8 := H8.new hN14
  replace hF := hF.trNew hN14
  refine fx_storeS sz28 rfl rfl rfl (fr.ev rfl) (fr.ev rfl) (by simp [Value.oneCell']) B15 rfl rfl fun w17 hO18 hBq => ?_
  replace hV := hV.only hO18 (Apart.ne1 ap_P_b12)
  replace B4 := B4.only hO18 (by first | exact ne_b1_b12 | exact ne_b12_b1.symm | (show ¬ b1 = b12; omega))
  replace H8 := H8.only hO18 (ne1P ap_Fp7_b12)
  replace hF := hF.loc hO18 (.inr g_b12)
  replace B15 := hBq
  clear hBq
  refine wpList_nil ?_
  refine fx_next ?_
  refine wp_seq ?_
  refine wp_seq ?_
  refine wp_region_lit ?_  -- region 3
  refine fx_val (v := .int .i64 0) fr rfl rfl (by first | decide | simp) (x_assign rfl rfl) ?_
  clear fr a; intro a fr
  refine wpList_nil ?_
  refine fx_next ?_
  refine wp_block ?_
  refine fx_loop (fun nM a wL => ∃ L : List Ln, ∃ FpX : Nat → Prop, ∃ V : Option Addr, ∃ vc : Nat, ∃ i : Nat, nM = la.length - i ∧ Fr (81, []) [(2, .slice P la.length cp), (6, .pointer none), (7, .pointer (some ⟨b1, 0, none⟩)), (8, .bool false), (9, .pointer (some ⟨b6, 0, none⟩)), (10, .int .i64 0), (11, .pointer (some ⟨b12, 0, none⟩)), (12, .int .i64 ((i : Nat) : Int))] a ∧ Only (fun _ => False) w wL ∧ View actE wL P cp la ∧ Blk wL b1 28 (#[.int .i64 0, .int .i64 0, .slice none 0 0]) ∧ LinesAt wL FpX b6 n ways L ∧ Blk wL b12 28 #[.int .i64 ((n : Nat) : Int), .int .i64 ways, .slice V L.length vc] ∧ View lnE wL V vc L ∧ i ≤ la.length ∧ L.length ≤ i ∧ (∀ k, inA P k → FpX k → False) ∧ (¬ FpX b1) ∧ (Apart V b1) ∧ (¬ FpX b12) ∧ (∀ k, FpX k → inA V k → False) ∧ (Apart V b12) ∧ (∀ g, FpX g → (fun _ => False) g ∨ w.heap.size ≤ g) ∧ (∀ g, inA V g → (fun _ => False) g ∨ w.heap.size ≤ g)) (n0 := _) ⟨[], Fp7, none, 0, 0, rfl, fr.sub ⟨rfl, rfl, rfl, rfl, rfl, rfl, rfl, rfl, trivial⟩, hF, hV, B4, H8, B15, View.nil, by omega, Nat.le_refl _, ap2_P_Fp7, ap_Fp7_b1, (apart_none b1), ap_Fp7_b12, (fun k _ h => apart_none k h), (apart_none b12), gA_Fp7, gA_none⟩ ?_
  rintro n20 a w19 ⟨L, FpX, V, vc, i, rfl, fr, hF, hV, B4, H, B15, hW, hi, hLi, ap2_P_FpX, ap_FpX_b1, ap_V_b1, ap_FpX_b12, ap2_FpX_V, ap_V_b12, gA_FpX, gA_V⟩
  refine wp_seq ?_
  refine wp_seq ?_
  refine wp_region_lit ?_  -- region 4
  refine fx_val (v := .int .i64 ((i : Nat) : Int)) fr rfl rfl (by first | decide | simp) (x_move rfl (fr.ev rfl)) ?_
  clear fr a; intro a fr
  refine fx_val (v := .slice P la.length cp) fr rfl rfl (by first | decide | simp) (x_move rfl (fr.ev rfl)) ?_
  clear fr a; intro a fr
  refine fx_val (v := .int .i64 ((la.length : Nat) : Int)) fr rfl rfl (by first | decide | simp) (x_len Try.underlying22 rfl (fr.ev rfl)) ?_
  clear fr a; intro a fr
  refine fx_val (v := .bool (decide (((i : Nat) : Int) < ((la.length : Nat) : Int)))) fr rfl rfl (by first | decide | simp) (x_lss rfl (fr.ev rfl) (fr.ev rfl) rfl) ?_
  clear fr a; intro a fr
  refine wpList_nil ?_
  refine fx_next ?_
  refine fx_cond fr rfl (fun hc21 => ?_) (fun hc21 => ?_)
  · skip
    have hc21 := of_decide_eq_true hc21
    refine wp_skip ?_
    refine fx_next ?_
    refine wp_seq ?_
    refine wp_block ?_
    refine wp_seq ?_
    have hxn := (la.getD i act0).ln.hn
    refine wp_region_lit ?_  -- region 6
    refine fx_val (v := .slice P la.length cp) fr rfl rfl (by first | decide | simp) (x_move rfl (fr.ev rfl)) ?_
    clear fr a; intro a fr
    refine fx_val (v := .int .i64 ((i : Nat) : Int)) fr rfl rfl (by first | decide | simp) (x_move rfl (fr.ev rfl)) ?_
    clear fr a; intro a fr
    obtain ⟨g22, o23, hA24⟩ := (hV).some_ (by omega)
    refine fx_val (v := .pointer (some ⟨g22, o23 + i * 19, none⟩)) fr rfl rfl (by first | decide | simp) (x_indexV Try.underlying22 sz57 rfl (fr.ev rfl) hA24 (fr.ev rfl) (by omega) rfl) ?_
    clear fr a; intro a fr
    refine fx_val (v := .agg (actE.arr (la.getD i act0))) fr rfl rfl (by first | decide | simp) (x_loadE (E := actE) ag57 rfl rfl (fr.ev rfl) ((hV).elem hA24 i act0 (by omega))) ?_
    clear fr a; intro a fr
    refine fx_new fr rfl rfl (by first | decide | simp) (x_alloc (z := .agg (#[.int .i64 0, .int .u32 0, .int .i64 0, .int .u8 0, .int .u8 0, .int .u8 0, .int .u8 0, .int .u8 0, .int .u8 0, .int .u8 0, .int .u8 0, .int .u8 0, .int .u8 0, .int .u8 0, .int .u8 0, .int .u8 0, .int .u8 0, .int .u8 0, .int .u8 0])) (cs := actE.arr act0) rfl (by kernel_rfl) rfl) ?_
    clear fr a
    intro b25 w26 hN27 B28 hb29 a fr
    have ap_P_b25 : Apart P b25 := hV.apart hb29
    have ne_b1_b25 : NE b1 b25 := NE.mk (Nat.lt_of_lt_of_le B4.lt hb29)
    have ap_FpX_b25 : ¬ FpX b25 := H.apart hb29
    have ne_b12_b25 : NE b12 b25 := NE.mk (Nat.lt_of_lt_of_le B15.lt hb29)
    have ap_V_b25 : Apart V b25 := hW.apart hb29
    have g_b25 := Nat.le_trans hF.size hb29
    replace hV := hV.new hN27
    replace B4 := B4.new hN27
    replace H := H.new hN27
    replace B15 := B15.new hN27
    replace hW := hW.new hN27
    replace hF := hF.trNew hN27
    refine fx_storeS sz57 rfl rfl rfl (fr.ev rfl) (fr.ev rfl) (actE.all _) B28 (actE.size _) (actE.size _) fun w30 hO31 hBq => ?_
    replace hV := hV.only hO31 (Apart.ne1 ap_P_b25)
    replace B4 := B4.only hO31 (by first | exact ne_b1_b25 | exact ne_b25_b1.symm | (show ¬ b1 = b25; omega))
    replace H := H.only hO31 (ne1P ap_FpX_b25)
    replace B15 := B15.only hO31 (by first | exact ne_b12_b25 | exact ne_b25_b12.symm | (show ¬ b12 = b25; omega))
    replace hW := hW.only hO31 (Apart.ne1 ap_V_b25)
    replace hF := hF.loc hO31 (.inr g_b25)
    replace B28 := hBq
    clear hBq
    refine wpList_nil ?_
    refine fx_next ?_
    refine wp_seq ?_
    refine wp_seq ?_
    refine wp_region_lit ?_  -- region 7
    refine fx_val (v := .pointer (some ⟨b25, 0, none⟩)) fr rfl rfl (by first | decide | simp) (x_fieldAddr fo57_0 rfl (fr.ev rfl) rfl) ?_
    clear fr a; intro a fr
    refine fx_val (v := .int .i64 ((la.getD i act0).what)) fr rfl rfl (by first | decide | simp) (x_load1 pl3 rfl (fr.ev rfl) (B28.cell 0 rfl)) ?_
    clear fr a; intro a fr
    refine fx_val (v := .bool (decide ((la.getD i act0).what ≠ 0))) fr rfl rfl (by first | decide | simp) (x_neq rfl (fr.ev rfl) rfl rfl) ?_
    clear fr a; intro a fr
    refine wpList_nil ?_
    refine fx_next ?_
    refine fx_cond fr rfl (fun hc32 => ?_) (fun hc32 => ?_)
    · skip
      have hc32 := of_decide_eq_true hc32
      refine wp_seq ?_
      refine wp_region_lit ?_  -- region 8
      refine fx_val (v := .agg (#[.int .i64 ((n : Nat) : Int), .int .i64 ways, .slice V L.length vc])) fr rfl rfl (by first | decide | simp) (x_loadS ag28 rfl (fr.ev rfl) rfl B15.range) ?_
      clear fr a; intro a fr
      refine fx_val (v := .pointer (some ⟨b25, 1, none⟩)) fr rfl rfl (by first | decide | simp) (x_fieldAddr fo57_1 rfl (fr.ev rfl) rfl) ?_
      clear fr a; intro a fr
      refine fx_val (v := .pointer (some ⟨b25, 1, none⟩)) fr rfl rfl (by first | decide | simp) (x_fieldAddr fo39_0 rfl (fr.ev rfl) rfl) ?_
      clear fr a; intro a fr
      refine fx_val (v := .int .u32 ((la.getD i act0).ln.num)) fr rfl rfl (by first | decide | simp) (x_load1 pl33 rfl (fr.ev rfl) (B28.cell 1 rfl)) ?_
      clear fr a; intro a fr
      refine fx_call fr rfl rfl (by first | decide | simp) (x_call (vs := [.agg (#[.int .i64 ((n : Nat) : Int), .int .i64 ways, .slice V L.length vc]), .int .u32 ((la.getD i act0).ln.num)]) rfl rfl ⟨(fr.ev rfl), (fr.ev rfl), trivial⟩ Try.func17 nm17 rfl) (rfind_c ((la.getD i act0).ln.num) (n := n) (ways := ways) (L := L) (hW) (by first | omega | decide)) ?_
      clear fr a
      rintro v w33 ⟨rfl, hN34⟩ a fr
      replace hV := hV.new hN34
      replace B4 := B4.new hN34
      replace H := H.new hN34
      replace B15 := B15.new hN34
      replace hW := hW.new hN34
      replace B28 := B28.new hN34
      replace hF := hF.trNew hN34
      refine fx_val (v := .bool (decide (0 ≤ fndI L ((la.getD i act0).ln.num)))) fr rfl rfl (by first | decide | simp) (x_geq rfl (fr.ev rfl) rfl rfl) ?_
      clear fr a; intro a fr
      refine fx_val (v := .bool (decide (0 ≤ fndI L ((la.getD i act0).ln.num)))) fr rfl rfl (by first | decide | simp) (x_assign rfl (fr.ev rfl)) ?_
      clear fr a; intro a fr
      refine wpList_nil ?_
      refine fx_next ?_
      refine wp_seq ?_
      refine wp_region_lit ?_  -- region 9
      refine fx_val (v := .agg (#[.int .i64 ((n : Nat) : Int), .int .i64 ways, .slice V L.length vc])) fr rfl rfl (by first | decide | simp) (x_loadS ag28 rfl (fr.ev rfl) rfl B15.range) ?_
      clear fr a; intro a fr
      refine fx_val (v := .pointer (some ⟨b25, 1, none⟩)) fr rfl rfl (by first | decide | simp) (x_fieldAddr fo57_1 rfl (fr.ev rfl) rfl) ?_
      clear fr a; intro a fr
      refine fx_val (v := .pointer (some ⟨b25, 1, none⟩)) fr rfl rfl (by first | decide | simp) (x_fieldAddr fo39_0 rfl (fr.ev rfl) rfl) ?_
      clear fr a; intro a fr
      refine fx_val (v := .int .u32 ((la.getD i act0).ln.num)) fr rfl rfl (by first | decide | simp) (x_load1 pl33 rfl (fr.ev rfl) (B28.cell 1 rfl)) ?_
      clear fr a; intro a fr
      refine fx_call fr rfl rfl (by first | decide | simp) (x_call (vs := [.agg (#[.int .i64 ((n : Nat) : Int), .int .i64 ways, .slice V L.length vc]), .int .u32 ((la.getD i act0).ln.num)]) rfl rfl ⟨(fr.ev rfl), (fr.ev rfl), trivial⟩ Try.func23 nm23 rfl) (rdrop_c ((la.getD i act0).ln.num) (n := n) (ways := ways) (L := L) (hW) (by first | omega | decide) (by omega)) ?_
      clear fr a
      rintro v w39 ⟨A35, cap36, rfl, V37, mv38, hN40⟩ a fr
      have ap_A35_b1 : Apart A35 b1 := moved_apart mv38 ap_V_b1 B4.lt
      have ap2_A35_FpX : ∀ k, inA A35 k → FpX k → False := moved_apart2P mv38 (symP ap2_FpX_V) fun _ hg => H.lt hg
      have ap_A35_b12 : Apart A35 b12 := moved_apart mv38 ap_V_b12 B15.lt
      have ap_A35_b25 : Apart A35 b25 := moved_apart mv38 ap_V_b25 B28.lt
      have gA_A35 := gA_moved hF mv38 gA_V
      replace hV := hV.new hN40
      replace B4 := B4.new hN40
      replace H := H.new hN40
      replace B15 := B15.new hN40
      replace hW := hW.new hN40
      replace B28 := B28.new hN40
      replace hF := hF.trNew hN40
      refine fx_storeS sz28 rfl rfl rfl (fr.ev rfl) (fr.ev rfl) (by simp [Value.oneCell']) B15 rfl rfl fun w41 hO42 hBq => ?_
      replace hV := hV.only hO42 (Apart.ne1 ap_P_b12)
      replace B4 := B4.only hO42 (by first | exact ne_b1_b12 | exact ne_b12_b1.symm | (show ¬ b1 = b12; omega))
      replace H := H.only hO42 (ne1P ap_FpX_b12)
      replace hW := hW.only hO42 (Apart.ne1 ap_V_b12)
      replace B28 := B28.only hO42 (by first | exact ne_b25_b12 | exact ne_b12_b25.symm | (show ¬ b25 = b12; omega))
      replace V37 := V37.only hO42 (Apart.ne1 ap_A35_b12)
      replace hF := hF.loc hO42 (.inr g_b12)
      replace B15 := hBq
      clear hBq
      refine wpList_nil ?_
      refine fx_next ?_
      refine wp_seq ?_
      refine wp_seq ?_
      refine wp_region_lit ?_  -- region 10
      refine fx_val (v := .pointer (some ⟨b6, 0, none⟩)) fr rfl rfl (by first | decide | simp) (x_move rfl (fr.ev rfl)) ?_
      clear fr a; intro a fr
      refine fx_val (v := .pointer (some ⟨b25, 1, none⟩)) fr rfl rfl (by first | decide | simp) (x_fieldAddr fo57_1 rfl (fr.ev rfl) rfl) ?_
      clear fr a; intro a fr
      refine fx_val (v := .pointer (some ⟨b25, 1, none⟩)) fr rfl rfl (by first | decide | simp) (x_fieldAddr fo39_0 rfl (fr.ev rfl) rfl) ?_
      clear fr a; intro a fr
      refine fx_val (v := .int .u32 ((la.getD i act0).ln.num)) fr rfl rfl (by first | decide | simp) (x_load1 pl33 rfl (fr.ev rfl) (B28.cell 1 rfl)) ?_
      clear fr a; intro a fr
      refine fx_call fr rfl rfl (by first | decide | simp) (x_call (vs := [.pointer (some ⟨b6, 0, none⟩), .int .u32 ((la.getD i act0).ln.num)]) rfl rfl ⟨(fr.ev rfl), (fr.ev rfl), trivial⟩ Try.func22 nm22 rfl) (drop_c ((la.getD i act0).ln.num) (by omega) H) ?_
      clear fr a
      rintro v w46 ⟨rfl, Fp43, H44, hN47, mv45⟩ a fr
      have ap2_Fp43_P : ∀ k, Fp43 k → inA P k → False := moved_apart2P mv45 (symP ap2_P_FpX) fun _ hg => hV.lt hg
      have ap_Fp43_b1 : ¬ Fp43 b1 := moved_apartP mv45 ap_FpX_b1 B4.lt
      have ap2_Fp43_V : ∀ k, Fp43 k → inA V k → False := moved_apart2P mv45 ap2_FpX_V fun _ hg => hW.lt hg
      have ap_Fp43_b25 : ¬ Fp43 b25 := moved_apartP mv45 ap_FpX_b25 B28.lt
      have ap2_Fp43_A35 : ∀ k, Fp43 k → inA A35 k → False := moved_apart2P mv45 (symP ap2_A35_FpX) fun _ hg => V37.lt hg
      have ap_Fp43_b12 : ¬ Fp43 b12 := moved_apartP mv45 ap_FpX_b12 B15.lt
      have gA_Fp43 := gA_movedP hF mv45 gA_FpX
      replace hV := hV.only hN47 (fun g h1 h2 => ap2_P_FpX g h1 h2)
      replace B4 := B4.only hN47 ap_FpX_b1
      replace hW := hW.only hN47 (fun g h1 h2 => (symP ap2_FpX_V) g h1 h2)
      replace B28 := B28.only hN47 ap_FpX_b25
      replace V37 := V37.only hN47 (fun g h1 h2 => ap2_A35_FpX g h1 h2)
      replace B15 := B15.only hN47 ap_FpX_b12
      replace hF := hF.locP hN47 gA_FpX
      clear H
      rw [fnd_get L ((la.getD i act0).ln.num)] at fr
      refine fx_val (v := .bool (decide (0 ≤ fndI L ((la.getD i act0).ln.num)))) fr rfl rfl (by first | decide | simp) (x_move rfl (fr.ev rfl)) ?_
      clear fr a; intro a fr
      refine fx_val (v := .bool false) fr rfl rfl (by first | decide | simp) (x_bneq Try.underlying4 rfl (fr.ev rfl) (fr.ev rfl) (by simp)) ?_
      clear fr a; intro a fr
      refine wpList_nil ?_
      refine fx_next ?_
      refine fx_cond_f fr rfl ?_
      refine wp_skip ?_
      refine fx_next ?_
      refine wp_exit ?_
      refine fx_xt ?_
      refine fx_xx ?_
      refine fx_next ?_
      refine wp_region_lit ?_  -- region 5
      refine fx_val (v := .int .i64 ((i : Nat) : Int)) fr rfl rfl (by first | decide | simp) (x_move rfl (fr.ev rfl)) ?_
      clear fr a; intro a fr
      refine fx_val (v := .int .i64 ((i + 1 : Nat) : Int)) fr rfl rfl (by first | decide | simp) (x_add rfl (fr.ev rfl) rfl (i64w (r := ((i + 1 : Nat) : Int)) (by omega) (by omega))) ?_
      clear fr a; intro a fr
      refine fx_val (v := .int .i64 ((i + 1 : Nat) : Int)) fr rfl rfl (by first | decide | simp) (x_assign rfl (fr.ev rfl)) ?_
      clear fr a; intro a fr
      refine wpList_nil ?_
      refine fx_next ?_
      exact ⟨_, by omega, (dropL L ((la.getD i act0).ln.num)), Fp43, A35, cap36, (i + 1), rfl, fr.sub ⟨rfl, rfl, rfl, rfl, rfl, rfl, rfl, rfl, trivial⟩, hF, hV, B4, H44, B15, V37, by omega, (by have := dropL_le L (la.getD i act0).ln.num; omega), (symP ap2_Fp43_P), ap_Fp43_b1, ap_A35_b1, ap_Fp43_b12, ap2_Fp43_A35, ap_A35_b12, gA_Fp43, gA_A35⟩
    · skip
      have hc32 := of_decide_eq_false hc32
      refine wp_skip ?_
      refine fx_next ?_
      refine wp_seq ?_
      refine wp_region_lit ?_  -- region 12
      refine fx_val (v := .agg (#[.int .i64 ((n : Nat) : Int), .int .i64 ways, .slice V L.length vc])) fr rfl rfl (by first | decide | simp) (x_loadS ag28 rfl (fr.ev rfl) rfl B15.range) ?_
      clear fr a; intro a fr
      refine fx_val (v := .pointer (some ⟨b25, 1, none⟩)) fr rfl rfl (by first | decide | simp) (x_fieldAddr fo57_1 rfl (fr.ev rfl) rfl) ?_
      clear fr a; intro a fr
      refine fx_val (v := .agg (lnE.arr ((la.getD i act0).ln))) fr rfl rfl (by first | decide | simp) (x_loadE (E := lnE) ag39 rfl rfl (fr.ev rfl) (B28.part (act_lnA _))) ?_
      clear fr a; intro a fr
      refine fx_call fr rfl rfl (by first | decide | simp) (x_call (vs := [.agg (#[.int .i64 ((n : Nat) : Int), .int .i64 ways, .slice V L.length vc]), .agg (lnE.arr ((la.getD i act0).ln))]) rfl rfl ⟨(fr.ev rfl), (fr.ev rfl), trivial⟩ Try.func19 nm19 rfl) (rput_c ((la.getD i act0).ln) (n := n) (ways := ways) (L := L) (hW) (by first | omega | decide) (by omega) (by first | omega | decide)) ?_
      clear fr a
      rintro v w52 ⟨A48, cap49, rfl, V50, mv51, hN53⟩ a fr
      have ap_A48_b1 : Apart A48 b1 := moved_apart mv51 ap_V_b1 B4.lt
      have ap2_A48_FpX : ∀ k, inA A48 k → FpX k → False := moved_apart2P mv51 (symP ap2_FpX_V) fun _ hg => H.lt hg
      have ap_A48_b12 : Apart A48 b12 := moved_apart mv51 ap_V_b12 B15.lt
      have ap_A48_b25 : Apart A48 b25 := moved_apart mv51 ap_V_b25 B28.lt
      have gA_A48 := gA_moved hF mv51 gA_V
      replace hV := hV.new hN53
      replace B4 := B4.new hN53
      replace H := H.new hN53
      replace B15 := B15.new hN53
      replace hW := hW.new hN53
      replace B28 := B28.new hN53
      replace hF := hF.trNew hN53
      refine fx_val (v := .tuple #[.agg (#[.int .i64 ((n : Nat) : Int), .int .i64 ways, .slice A48 ((putL n ways L ((la.getD i act0).ln)).length) cap49]), .int .i64 (putE n ways L ((la.getD i act0).ln))]) fr rfl rfl (by first | decide | simp) (x_move rfl (fr.ev rfl)) ?_
      clear fr a; intro a fr
      refine fx_val (v := .agg (#[.int .i64 ((n : Nat) : Int), .int .i64 ways, .slice A48 ((putL n ways L ((la.getD i act0).ln)).length) cap49])) fr rfl rfl (by first | decide | simp) (x_extract rfl (fr.ev rfl) rfl) ?_
      clear fr a; intro a fr
      refine fx_val (v := .int .i64 (putE n ways L ((la.getD i act0).ln))) fr rfl rfl (by first | decide | simp) (x_extract rfl (fr.ev rfl) rfl) ?_
      clear fr a; intro a fr
      refine fx_new fr rfl rfl (by first | decide | simp) (x_alloc (z := .agg (#[.int .i64 0, .int .i64 0, .slice none 0 0])) (cs := #[.int .i64 0, .int .i64 0, .slice none 0 0]) rfl (by kernel_rfl) rfl) ?_
      clear fr a
      intro b54 w55 hN56 B57 hb58 a fr
      have ap_P_b54 : Apart P b54 := hV.apart hb58
      have ne_b1_b54 : NE b1 b54 := NE.mk (Nat.lt_of_lt_of_le B4.lt hb58)
      have ap_FpX_b54 : ¬ FpX b54 := H.apart hb58
      have ne_b12_b54 : NE b12 b54 := NE.mk (Nat.lt_of_lt_of_le B15.lt hb58)
      have ap_V_b54 : Apart V b54 := hW.apart hb58
      have ne_b25_b54 : NE b25 b54 := NE.mk (Nat.lt_of_lt_of_le B28.lt hb58)
      have ap_A48_b54 : Apart A48 b54 := V50.apart hb58
      have g_b54 := Nat.le_trans hF.size hb58
      replace hV := hV.new hN56
      replace B4 := B4.new hN56
      replace H := H.new hN56
      replace B15 := B15.new hN56
      replace hW := hW.new hN56
      replace B28 := B28.new hN56
      replace V50 := V50.new hN56
      replace hF := hF.trNew hN56
      refine fx_storeS sz28 rfl rfl rfl (fr.ev rfl) (fr.ev rfl) (by simp [Value.oneCell']) B57 rfl rfl fun w59 hO60 hBq => ?_
      replace hV := hV.only hO60 (Apart.ne1 ap_P_b54)
      replace B4 := B4.only hO60 (by first | exact ne_b1_b54 | exact ne_b54_b1.symm | (show ¬ b1 = b54; omega))
      replace H := H.only hO60 (ne1P ap_FpX_b54)
      replace B15 := B15.only hO60 (by first | exact ne_b12_b54 | exact ne_b54_b12.symm | (show ¬ b12 = b54; omega))
      replace hW := hW.only hO60 (Apart.ne1 ap_V_b54)
      replace B28 := B28.only hO60 (by first | exact ne_b25_b54 | exact ne_b54_b25.symm | (show ¬ b25 = b54; omega))
      replace V50 := V50.only hO60 (Apart.ne1 ap_A48_b54)
      replace hF := hF.loc hO60 (.inr g_b54)
      replace B57 := hBq
      clear hBq
      refine fx_val (v := .int .i64 (putE n ways L ((la.getD i act0).ln))) fr rfl rfl (by first | decide | simp) (x_assign rfl (fr.ev rfl)) ?_
      clear fr a; intro a fr
      refine wpList_nil ?_
      refine fx_next ?_
      refine wp_seq ?_
      refine wp_region_lit ?_  -- region 13
      refine fx_val (v := .agg (#[.int .i64 ((n : Nat) : Int), .int .i64 ways, .slice A48 ((putL n ways L ((la.getD i act0).ln)).length) cap49])) fr rfl rfl (by first | decide | simp) (x_loadS ag28 rfl (fr.ev rfl) rfl B57.range) ?_
      clear fr a; intro a fr
      refine fx_storeS sz28 rfl rfl rfl (fr.ev rfl) (fr.ev rfl) (by simp [Value.oneCell']) B15 rfl rfl fun w61 hO62 hBq => ?_
      replace hV := hV.only hO62 (Apart.ne1 ap_P_b12)
      replace B4 := B4.only hO62 (by first | exact ne_b1_b12 | exact ne_b12_b1.symm | (show ¬ b1 = b12; omega))
      replace H := H.only hO62 (ne1P ap_FpX_b12)
      replace hW := hW.only hO62 (Apart.ne1 ap_V_b12)
      replace B28 := B28.only hO62 (by first | exact ne_b25_b12 | exact ne_b12_b25.symm | (show ¬ b25 = b12; omega))
      replace V50 := V50.only hO62 (Apart.ne1 ap_A48_b12)
      replace B57 := B57.only hO62 (by first | exact ne_b54_b12 | exact ne_b12_b54.symm | (show ¬ b54 = b12; omega))
      replace hF := hF.loc hO62 (.inr g_b12)
      replace B15 := hBq
      clear hBq
      refine wpList_nil ?_
      refine fx_next ?_
      refine wp_seq ?_
      refine wp_region_lit ?_  -- region 14
      refine fx_val (v := .pointer (some ⟨b6, 0, none⟩)) fr rfl rfl (by first | decide | simp) (x_move rfl (fr.ev rfl)) ?_
      clear fr a; intro a fr
      refine fx_val (v := .pointer (some ⟨b25, 1, none⟩)) fr rfl rfl (by first | decide | simp) (x_fieldAddr fo57_1 rfl (fr.ev rfl) rfl) ?_
      clear fr a; intro a fr
      refine fx_val (v := .agg (lnE.arr ((la.getD i act0).ln))) fr rfl rfl (by first | decide | simp) (x_loadE (E := lnE) ag39 rfl rfl (fr.ev rfl) (B28.part (act_lnA _))) ?_
      clear fr a; intro a fr
      refine fx_call fr rfl rfl (by first | decide | simp) (x_call (vs := [.pointer (some ⟨b6, 0, none⟩), .agg (lnE.arr ((la.getD i act0).ln))]) rfl rfl ⟨(fr.ev rfl), (fr.ev rfl), trivial⟩ Try.func21 nm21 rfl) (put_c ((la.getD i act0).ln) H) ?_
      clear fr a
      rintro v w66 ⟨rfl, Fp63, H64, hN67, mv65⟩ a fr
      have ap2_Fp63_P : ∀ k, Fp63 k → inA P k → False := moved_apart2P mv65 (symP ap2_P_FpX) fun _ hg => hV.lt hg
      have ap_Fp63_b1 : ¬ Fp63 b1 := moved_apartP mv65 ap_FpX_b1 B4.lt
      have ap2_Fp63_V : ∀ k, Fp63 k → inA V k → False := moved_apart2P mv65 ap2_FpX_V fun _ hg => hW.lt hg
      have ap_Fp63_b25 : ¬ Fp63 b25 := moved_apartP mv65 ap_FpX_b25 B28.lt
      have ap2_Fp63_A48 : ∀ k, Fp63 k → inA A48 k → False := moved_apart2P mv65 (symP ap2_A48_FpX) fun _ hg => V50.lt hg
      have ap_Fp63_b54 : ¬ Fp63 b54 := moved_apartP mv65 ap_FpX_b54 B57.lt
      have ap_Fp63_b12 : ¬ Fp63 b12 := moved_apartP mv65 ap_FpX_b12 B15.lt
      have gA_Fp63 := gA_movedP hF mv65 gA_FpX
      replace hV := hV.only hN67 (fun g h1 h2 => ap2_P_FpX g h1 h2)
      replace B4 := B4.only hN67 ap_FpX_b1
      replace hW := hW.only hN67 (fun g h1 h2 => (symP ap2_FpX_V) g h1 h2)
      replace B28 := B28.only hN67 ap_FpX_b25
      replace V50 := V50.only hN67 (fun g h1 h2 => ap2_A48_FpX g h1 h2)
      replace B57 := B57.only hN67 ap_FpX_b54
      replace B15 := B15.only hN67 ap_FpX_b12
      replace hF := hF.locP hN67 gA_FpX
      clear H
      refine fx_call fr rfl rfl (by first | decide | simp) (x_call (vs := [.int .i64 (putE n ways L ((la.getD i act0).ln))]) rfl rfl ⟨(fr.ev rfl), trivial⟩ Try.func20 nm20 rfl) (num_c (putE n ways L ((la.getD i act0).ln)) _) ?_
      clear fr a
      rintro v w9 ⟨rfl, hw9⟩ a fr
      obtain rfl := hw9.symm
      refine fx_val (v := .int .i64 (putE n ways L ((la.getD i act0).ln))) fr rfl rfl (by first | decide | simp) (x_move rfl (fr.ev rfl)) ?_
      clear fr a; intro a fr
      refine fx_val (v := .bool false) fr rfl rfl (by first | decide | simp) (x_neq rfl (fr.ev rfl) (fr.ev rfl) (by simp)) ?_
      clear fr a; intro a fr
      refine wpList_nil ?_
      refine fx_next ?_
      refine fx_cond_f fr rfl ?_
      refine wp_skip ?_
      refine fx_blk ?_
      refine fx_next ?_
      refine wp_region_lit ?_  -- region 5
      refine fx_val (v := .int .i64 ((i : Nat) : Int)) fr rfl rfl (by first | decide | simp) (x_move rfl (fr.ev rfl)) ?_
      clear fr a; intro a fr
      refine fx_val (v := .int .i64 ((i + 1 : Nat) : Int)) fr rfl rfl (by first | decide | simp) (x_add rfl (fr.ev rfl) rfl (i64w (r := ((i + 1 : Nat) : Int)) (by omega) (by omega))) ?_
      clear fr a; intro a fr
      refine fx_val (v := .int .i64 ((i + 1 : Nat) : Int)) fr rfl rfl (by first | decide | simp) (x_assign rfl (fr.ev rfl)) ?_
      clear fr a; intro a fr
      refine wpList_nil ?_
      refine fx_next ?_
      exact ⟨_, by omega, (putL n ways L ((la.getD i act0).ln)), Fp63, A48, cap49, (i + 1), rfl, fr.sub ⟨rfl, rfl, rfl, rfl, rfl, rfl, rfl, rfl, trivial⟩, hF, hV, B4, H64, B15, V50, by omega, (by have := putL_le n ways L (la.getD i act0).ln; omega), (symP ap2_Fp63_P), ap_Fp63_b1, ap_A48_b1, ap_Fp63_b12, ap2_Fp63_A48, ap_A48_b12, gA_Fp63, gA_A48⟩
  · skip
    have hc21 := of_decide_eq_false hc21
    refine wp_exit ?_
    refine fx_xt ?_
    refine fx_xt ?_
    refine fx_xx ?_
    refine fx_next ?_
    refine wp_seq ?_
    refine fx_heldT (n := 7) (k := 7) (fun w => View actE w P cp la ∧ LinesAt w FpX b6 n ways L ∧ Blk w b12 28 #[.int .i64 ((n : Nat) : Int), .int .i64 ways, .slice V L.length vc] ∧ View lnE w V vc L ∧ True) (by kernel_rfl) (by kernel_rfl) rfl ?_  -- region 16
    intro w70 hN71
    replace hV := hV.new hN71
    replace B4 := B4.new hN71
    replace H := H.new hN71
    replace B15 := B15.new hN71
    replace hW := hW.new hN71
    replace hF := hF.trNew hN71
    refine fx_take (i := 0) (v := .pointer (some ⟨b6, 0, none⟩)) fr rfl (by kernel_rfl) rfl rfl (by first | decide | simp) (fun _ _ _ h => h) (fun _ ⟨hV, H, B15, hW, _⟩ => x_move rfl (fr.ev rfl)) ⟨hV, H, B15, hW, trivial⟩ ?_
    clear fr a; intro a fr
    refine fx_take (i := 1) (v := .agg (#[.int .i64 ((n : Nat) : Int), .int .i64 ways, .slice V L.length vc])) fr rfl (by kernel_rfl) rfl rfl (by first | decide | simp) (fun _ _ _ h => h) (fun _ ⟨hV, H, B15, hW, _⟩ => x_loadS ag28 rfl (fr.ev rfl) rfl B15.range) ⟨hV, H, B15, hW, trivial⟩ ?_
    clear fr a; intro a fr
    refine fx_take (i := 2) (v := .int .i64 0) fr rfl (by kernel_rfl) rfl rfl (by first | decide | simp) (fun _ _ _ h => h) (fun _ ⟨hV, H, B15, hW, _⟩ => x_move rfl (fr.ev rfl)) ⟨hV, H, B15, hW, trivial⟩ ?_
    clear fr a; intro a fr
    refine fx_one (i := 3) (by kernel_rfl) (fx_op rfl ?_)
    refine fx_call fr rfl rfl (by first | decide | simp) (x_call (vs := [.int .i64 0]) rfl rfl ⟨(fr.ev rfl), trivial⟩ Try.func20 nm20 rfl) (num_c 0 _) ?_
    clear fr a
    rintro v w9 ⟨rfl, hw9⟩ a fr
    obtain rfl := hw9.symm
    refine wpList_nil ?_
    refine ⟨⟨hV, H, B15, hW, trivial⟩, ?_⟩
    refine fx_take (i := 4) (v := .bool true) fr rfl (by kernel_rfl) rfl rfl (by first | decide | simp) (fun _ _ _ h => h) (fun _ ⟨hV, H, B15, hW, _⟩ => x_eql rfl (fr.ev rfl) rfl rfl) ⟨hV, H, B15, hW, trivial⟩ ?_
    clear fr a; intro a fr
    refine fx_take (i := 5) (v := .pointer (some ⟨b6, 0, none⟩)) fr rfl (by kernel_rfl) rfl rfl (by first | decide | simp) (fun _ _ _ h => h) (fun _ ⟨hV, H, B15, hW, _⟩ => x_assign rfl (fr.ev rfl)) ⟨hV, H, B15, hW, trivial⟩ ?_
    clear fr a; intro a fr
    refine fx_one (i := 6) (by kernel_rfl) (fx_op rfl ?_)
    refine fx_storeS sz28 rfl rfl rfl (fr.ev rfl) (fr.ev rfl) (by simp [Value.oneCell']) B4 rfl rfl fun w74 hO75 hBq => ?_
    replace hV := hV.only hO75 (Apart.ne1 ap_P_b1)
    replace H := H.only hO75 (ne1P ap_FpX_b1)
    replace B15 := B15.only hO75 (by first | exact ne_b12_b1 | exact ne_b1_b12.symm | (show ¬ b12 = b1; omega))
    replace hW := hW.only hO75 (Apart.ne1 ap_V_b1)
    replace hF := hF.loc hO75 (.inr g_b1)
    replace B4 := hBq
    clear hBq
    refine wpList_nil ?_
    refine ⟨⟨hV, H, B15, hW, trivial⟩, ?_⟩
    refine fx_hdone (by kernel_rfl) ?_
    refine fx_tail ?_
    refine fx_val (v := .bool true) fr rfl rfl (by first | decide | simp) (x_assign rfl (fr.ev rfl)) ?_
    clear fr a; intro a fr
    refine wpList_nil ?_
    refine fx_next ?_
    refine wp_ret ?_
    refine fx_ret fr [.tmp 6, .cell 7 28, .tmp 8] [.pointer (some ⟨b6, 0, none⟩), .agg (#[.int .i64 ((n : Nat) : Int), .int .i64 ways, .slice V L.length vc]), .bool true] rfl ⟨rfl, ⟨_, rfl, x_loadV ag28 rfl B4.range⟩, rfl, trivial⟩ rfl ?_
    exact ⟨_, rfl, b6, FpX, L, V, vc, rfl, H, hW, by omega, (fun g hg => (gA_FpX g hg).resolve_left id), (fun g hg => (gA_V g hg).resolve_left id), ap2_FpX_V, hF⟩
set_option maxRecDepth 100000 in
set_option maxHeartbeats 4000000 in
theorem plays_no {w : World} {P : Option Addr} {cp : Nat} {la : List LAct} (hV : View actE w P cp la) (sets ways : Int) (hr : rightB sets ways = false) : Calls Try.prog 3 #[.int .i64 sets, .int .i64 ways, .slice P la.length cp] w (Ret fun v w' => v = .bool true ∧ New w w') := by
  have hF := Only.refl (fun _ => False) w
  refine fx_enter Try.func3 rfl (N := (37, [])) (T := [(0, .int .i64 sets), (1, .int .i64 ways), (2, .slice P la.length cp)]) rfl (show 3 ≤ 37 by decide) ⟨rfl, rfl, rfl, trivial⟩ fun a fr => ?_
  refine wp_seq ?_
  refine wp_region_lit ?_  -- region 0
  refine fx_val (v := .bool false) fr rfl rfl (by first | decide | simp) (x_assign rfl rfl) ?_
  clear fr a; intro a fr
  refine wpList_nil ?_
  refine fx_next ?_
  refine wp_seq ?_
  refine wp_seq ?_
  refine wp_region_lit ?_  -- region 1
  refine fx_val (v := .int .i64 sets) fr rfl rfl (by first | decide | simp) (x_move rfl (fr.ev rfl)) ?_
  clear fr a; intro a fr
  refine fx_val (v := .int .i64 ways) fr rfl rfl (by first | decide | simp) (x_move rfl (fr.ev rfl)) ?_
  clear fr a; intro a fr
  refine fx_call fr rfl rfl (by first | decide | simp) (x_call (vs := [.int .i64 sets, .int .i64 ways]) rfl rfl ⟨(fr.ev rfl), (fr.ev rfl), trivial⟩ Try.func10 nm10 rfl) (right_c sets ways _) ?_
  clear fr a
  rintro v w1 ⟨rfl, hN2⟩ a fr
  replace hV := hV.new hN2
  replace hF := hF.trNew hN2
  rw [hr] at fr
  refine fx_val (v := .bool true) fr rfl rfl (by first | decide | simp) (x_not rfl (fr.ev rfl) rfl) ?_
  clear fr a; intro a fr
  refine fx_val (v := .bool true) fr rfl rfl (by first | decide | simp) (x_move rfl (fr.ev rfl)) ?_
  clear fr a; intro a fr
  refine fx_skip fr (fr.unwant rfl rfl rfl (by decide)) rfl (by first | decide | simp) ?_
  clear fr a; intro a fr
  refine fx_skip fr (fr.unwant rfl rfl rfl (by decide)) rfl (by first | decide | simp) ?_
  clear fr a; intro a fr
  refine fx_skip fr (fr.unwant rfl rfl rfl (by decide)) rfl (by first | decide | simp) ?_
  clear fr a; intro a fr
  refine fx_val (v := .bool true) fr rfl rfl (by first | decide | simp) (x_pick_t rfl (fr.ev rfl) rfl) ?_
  clear fr a; intro a fr
  refine wpList_nil ?_
  refine fx_next ?_
  refine fx_cond_t fr rfl ?_
  refine wp_seq ?_
  refine wp_region_lit ?_  -- region 2
  refine fx_call fr rfl rfl (by first | decide | simp) (x_call (vs := []) rfl rfl trivial Try.func11 nm11 rfl) (works_c _) ?_
  clear fr a
  rintro v w3 ⟨rfl, hN4⟩ a fr
  replace hV := hV.new hN4
  replace hF := hF.trNew hN4
  refine fx_val (v := .bool true) fr rfl rfl (by first | decide | simp) (x_assign rfl (fr.ev rfl)) ?_
  clear fr a; intro a fr
  refine wpList_nil ?_
  refine fx_next ?_
  refine wp_ret ?_
  refine fx_rt ?_
  refine fx_ret fr [.tmp 6] [.bool true] rfl ⟨rfl, trivial⟩ rfl ?_
  exact ⟨_, rfl, rfl, hF⟩
set_option maxRecDepth 100000 in
set_option maxHeartbeats 4000000 in
theorem plays_yes {w : World} {P : Option Addr} {cp : Nat} {la : List LAct} (hV : View actE w P cp la) (n : Nat) (ways : Int) (hr : rightB ((n : Nat) : Int) ways = true) : Calls Try.prog 3 #[.int .i64 ((n : Nat) : Int), .int .i64 ways, .slice P la.length cp] w (Ret fun v w' => v = .bool true ∧ New w w') := by
  have hVl := hV.len
  unfold maxLen at hVl
  have hrb := right_bd hr
  have hF := Only.refl (fun _ => False) w
  refine fx_enter Try.func3 rfl (N := (37, [])) (T := [(0, .int .i64 ((n : Nat) : Int)), (1, .int .i64 ways), (2, .slice P la.length cp)]) rfl (show 3 ≤ 37 by decide) ⟨rfl, rfl, rfl, trivial⟩ fun a fr => ?_
  refine wp_seq ?_
  refine wp_region_lit ?_  -- region 0
  refine fx_val (v := .bool false) fr rfl rfl (by first | decide | simp) (x_assign rfl rfl) ?_
  clear fr a; intro a fr
  refine wpList_nil ?_
  refine fx_next ?_
  refine wp_seq ?_
  refine wp_seq ?_
  refine wp_region_lit ?_  -- region 1
  refine fx_val (v := .int .i64 ((n : Nat) : Int)) fr rfl rfl (by first | decide | simp) (x_move rfl (fr.ev rfl)) ?_
  clear fr a; intro a fr
  refine fx_val (v := .int .i64 ways) fr rfl rfl (by first | decide | simp) (x_move rfl (fr.ev rfl)) ?_
  clear fr a; intro a fr
  refine fx_call fr rfl rfl (by first | decide | simp) (x_call (vs := [.int .i64 ((n : Nat) : Int), .int .i64 ways]) rfl rfl ⟨(fr.ev rfl), (fr.ev rfl), trivial⟩ Try.func10 nm10 rfl) (right_c ((n : Nat) : Int) ways _) ?_
  clear fr a
  rintro v w1 ⟨rfl, hN2⟩ a fr
  replace hV := hV.new hN2
  replace hF := hF.trNew hN2
  rw [hr] at fr
  refine fx_val (v := .bool false) fr rfl rfl (by first | decide | simp) (x_not rfl (fr.ev rfl) rfl) ?_
  clear fr a; intro a fr
  refine fx_val (v := .bool false) fr rfl rfl (by first | decide | simp) (x_move rfl (fr.ev rfl)) ?_
  clear fr a; intro a fr
  refine fx_val (v := .slice P la.length cp) fr (fr.want rfl rfl rfl) rfl (by first | decide | simp) (x_move rfl (fr.ev rfl)) ?_
  clear fr a; intro a fr
  refine fx_val (v := .int .i64 ((la.length : Nat) : Int)) fr (fr.want rfl rfl rfl) rfl (by first | decide | simp) (x_len Try.underlying22 rfl (fr.ev rfl)) ?_
  clear fr a; intro a fr
  refine fx_val (v := .bool (decide (100 < ((la.length : Nat) : Int)))) fr (fr.want rfl rfl rfl) rfl (by first | decide | simp) (x_gtr rfl (fr.ev rfl) rfl rfl) ?_
  clear fr a; intro a fr
  refine fx_val (v := .bool (decide (100 < ((la.length : Nat) : Int)))) fr rfl rfl (by first | decide | simp) (x_pick_f rfl (fr.ev rfl) (fr.ev rfl)) ?_
  clear fr a; intro a fr
  refine wpList_nil ?_
  refine fx_next ?_
  refine fx_cond fr rfl (fun hc3 => ?_) (fun hc3 => ?_)
  · skip
    have hc3 := of_decide_eq_true hc3
    refine wp_seq ?_
    refine wp_region_lit ?_  -- region 2
    refine fx_call fr rfl rfl (by first | decide | simp) (x_call (vs := []) rfl rfl trivial Try.func11 nm11 rfl) (works_c _) ?_
    clear fr a
    rintro v w4 ⟨rfl, hN5⟩ a fr
    replace hV := hV.new hN5
    replace hF := hF.trNew hN5
    refine fx_val (v := .bool true) fr rfl rfl (by first | decide | simp) (x_assign rfl (fr.ev rfl)) ?_
    clear fr a; intro a fr
    refine wpList_nil ?_
    refine fx_next ?_
    refine wp_ret ?_
    refine fx_rt ?_
    refine fx_ret fr [.tmp 6] [.bool true] rfl ⟨rfl, trivial⟩ rfl ?_
    exact ⟨_, rfl, rfl, hF⟩
  · skip
    have hc3 := of_decide_eq_false hc3
    refine wp_skip ?_
    refine fx_next ?_
    refine wp_seq ?_
    refine wp_region_lit ?_  -- region 3
    refine fx_val (v := .int .i64 ((n : Nat) : Int)) fr rfl rfl (by first | decide | simp) (x_move rfl (fr.ev rfl)) ?_
    clear fr a; intro a fr
    refine fx_val (v := .int .i64 ways) fr rfl rfl (by first | decide | simp) (x_move rfl (fr.ev rfl)) ?_
    clear fr a; intro a fr
    refine fx_val (v := .slice P la.length cp) fr rfl rfl (by first | decide | simp) (x_move rfl (fr.ev rfl)) ?_
    clear fr a; intro a fr
    refine fx_call fr rfl rfl (by first | decide | simp) (x_call (vs := [.int .i64 ((n : Nat) : Int), .int .i64 ways, .slice P la.length cp]) rfl rfl ⟨(fr.ev rfl), (fr.ev rfl), (fr.ev rfl), trivial⟩ Try.func12 nm12 rfl) (played_c (hV) hr (by omega)) ?_
    clear fr a
    rintro v w17 ⟨b6, Fp7, L8, V9, vc10, rfl, H11, hW12, hl13, hf14, hV15, q16, hN18⟩ a fr
    have ap2_P_Fp7 : ∀ k, inA P k → Fp7 k → False := symP (new_apart2P hf14 fun _ hg => hV.lt hg)
    have gA_Fp7 := gA_newP hF hf14
    have ap2_P_V9 : Apart2 P V9 := (new_apart2 hV15 fun _ hg => hV.lt hg).symm
    have gA_V9 := gA_new hF hV15
    replace hV := hV.new hN18
    replace hF := hF.trNew hN18
    have ap2_Fp7_V9 := q16
    obtain ⟨hq1, hq2, hq3, hq4⟩ := H11.bd
    refine fx_val (v := .tuple #[.pointer (some ⟨b6, 0, none⟩), .agg (#[.int .i64 ((n : Nat) : Int), .int .i64 ways, .slice V9 L8.length vc10]), .bool true]) fr rfl rfl (by first | decide | simp) (x_move rfl (fr.ev rfl)) ?_
    clear fr a; intro a fr
    refine fx_val (v := .pointer (some ⟨b6, 0, none⟩)) fr rfl rfl (by first | decide | simp) (x_extract rfl (fr.ev rfl) rfl) ?_
    clear fr a; intro a fr
    refine fx_val (v := .agg (#[.int .i64 ((n : Nat) : Int), .int .i64 ways, .slice V9 L8.length vc10])) fr rfl rfl (by first | decide | simp) (x_extract rfl (fr.ev rfl) rfl) ?_
    clear fr a; intro a fr
    refine fx_val (v := .bool true) fr rfl rfl (by first | decide | simp) (x_extract rfl (fr.ev rfl) rfl) ?_
    clear fr a; intro a fr
    refine fx_new fr rfl rfl (by first | decide | simp) (x_alloc (z := .agg (#[.int .i64 0, .int .i64 0, .slice none 0 0])) (cs := #[.int .i64 0, .int .i64 0, .slice none 0 0]) rfl (by kernel_rfl) rfl) ?_
    clear fr a
    intro b19 w20 hN21 B22 hb23 a fr
    have ap_P_b19 : Apart P b19 := hV.apart hb23
    have ap_Fp7_b19 : ¬ Fp7 b19 := H11.apart hb23
    have ap_V9_b19 : Apart V9 b19 := hW12.apart hb23
    have g_b19 := Nat.le_trans hF.size hb23
    replace hV := hV.new hN21
    replace H11 := H11.new hN21
    replace hW12 := hW12.new hN21
    replace hF := hF.trNew hN21
    refine fx_val (v := .pointer (some ⟨b6, 0, none⟩)) fr rfl rfl (by first | decide | simp) (x_assign rfl (fr.ev rfl)) ?_
    clear fr a; intro a fr
    refine fx_storeS sz28 rfl rfl rfl (fr.ev rfl) (fr.ev rfl) (by simp [Value.oneCell']) B22 rfl rfl fun w24 hO25 hBq => ?_
    replace hV := hV.only hO25 (Apart.ne1 ap_P_b19)
    replace H11 := H11.only hO25 (ne1P ap_Fp7_b19)
    replace hW12 := hW12.only hO25 (Apart.ne1 ap_V9_b19)
    replace hF := hF.loc hO25 (.inr g_b19)
    replace B22 := hBq
    clear hBq
    refine fx_val (v := .bool true) fr rfl rfl (by first | decide | simp) (x_assign rfl (fr.ev rfl)) ?_
    clear fr a; intro a fr
    refine wpList_nil ?_
    refine fx_next ?_
    refine wp_seq ?_
    refine wp_region_lit ?_  -- region 4
    refine fx_val (v := .bool true) fr rfl rfl (by first | decide | simp) (x_move rfl (fr.ev rfl)) ?_
    clear fr a; intro a fr
    refine fx_val (v := .bool true) fr rfl rfl (by first | decide | simp) (x_move rfl (fr.ev rfl)) ?_
    clear fr a; intro a fr
    refine fx_val (v := .pointer (some ⟨b6, 0, none⟩)) fr (fr.want rfl rfl rfl) rfl (by first | decide | simp) (x_move rfl (fr.ev rfl)) ?_
    clear fr a; intro a fr
    refine fx_val (v := .agg (#[.int .i64 ((n : Nat) : Int), .int .i64 ways, .slice V9 L8.length vc10])) fr (fr.want rfl rfl rfl) rfl (by first | decide | simp) (x_loadS ag28 rfl (fr.ev rfl) rfl B22.range) ?_
    clear fr a; intro a fr
    refine fx_call fr (fr.want rfl rfl rfl) rfl (by first | decide | simp) (x_call (vs := [.pointer (some ⟨b6, 0, none⟩), .agg (#[.int .i64 ((n : Nat) : Int), .int .i64 ways, .slice V9 L8.length vc10])]) rfl rfl ⟨(fr.ev rfl), (fr.ev rfl), trivial⟩ Try.func13 nm13 rfl) (is_c H11 (hW12) (by omega)) ?_
    clear fr a
    rintro v w26 ⟨rfl, hN27⟩ a fr
    replace hV := hV.new hN27
    replace H11 := H11.new hN27
    replace hW12 := hW12.new hN27
    replace B22 := B22.new hN27
    replace hF := hF.trNew hN27
    refine fx_val (v := .bool true) fr rfl rfl (by first | decide | simp) (x_pick_t rfl (fr.ev rfl) (fr.ev rfl)) ?_
    clear fr a; intro a fr
    refine fx_val (v := .bool true) fr rfl rfl (by first | decide | simp) (x_move rfl (fr.ev rfl)) ?_
    clear fr a; intro a fr
    refine fx_call fr (fr.want rfl rfl rfl) rfl (by first | decide | simp) (x_call (vs := []) rfl rfl trivial Try.func11 nm11 rfl) (works_c _) ?_
    clear fr a
    rintro v w28 ⟨rfl, hN29⟩ a fr
    replace hV := hV.new hN29
    replace H11 := H11.new hN29
    replace hW12 := hW12.new hN29
    replace B22 := B22.new hN29
    replace hF := hF.trNew hN29
    refine fx_val (v := .bool true) fr rfl rfl (by first | decide | simp) (x_pick_t rfl (fr.ev rfl) (fr.ev rfl)) ?_
    clear fr a; intro a fr
    refine fx_val (v := .bool true) fr rfl rfl (by first | decide | simp) (x_assign rfl (fr.ev rfl)) ?_
    clear fr a; intro a fr
    refine wpList_nil ?_
    refine fx_next ?_
    refine wp_ret ?_
    refine fx_ret fr [.tmp 6] [.bool true] rfl ⟨rfl, trivial⟩ rfl ?_
    exact ⟨_, rfl, rfl, hF⟩
set_option maxRecDepth 100000 in
set_option maxHeartbeats 4000000 in
theorem puts_no {w : World} {P : Option Addr} {cp : Nat} {la : List Ln} (hV : View lnE w P cp la) (sets ways : Int) (hr : rightB sets ways = false) : Calls Try.prog 5 #[.int .i64 sets, .int .i64 ways, .slice P la.length cp] w (Ret fun v w' => v = .bool true ∧ New w w') := by
  have hF := Only.refl (fun _ => False) w
  refine fx_enter Try.func5 rfl (N := (68, [])) (T := [(0, .int .i64 sets), (1, .int .i64 ways), (2, .slice P la.length cp)]) rfl (show 3 ≤ 68 by decide) ⟨rfl, rfl, rfl, trivial⟩ fun a fr => ?_
  refine wp_seq ?_
  refine wp_region_lit ?_  -- region 0
  refine fx_val (v := .bool false) fr rfl rfl (by first | decide | simp) (x_assign rfl rfl) ?_
  clear fr a; intro a fr
  refine wpList_nil ?_
  refine fx_next ?_
  refine wp_seq ?_
  refine wp_seq ?_
  refine wp_region_lit ?_  -- region 1
  refine fx_val (v := .int .i64 sets) fr rfl rfl (by first | decide | simp) (x_move rfl (fr.ev rfl)) ?_
  clear fr a; intro a fr
  refine fx_val (v := .int .i64 ways) fr rfl rfl (by first | decide | simp) (x_move rfl (fr.ev rfl)) ?_
  clear fr a; intro a fr
  refine fx_call fr rfl rfl (by first | decide | simp) (x_call (vs := [.int .i64 sets, .int .i64 ways]) rfl rfl ⟨(fr.ev rfl), (fr.ev rfl), trivial⟩ Try.func10 nm10 rfl) (right_c sets ways _) ?_
  clear fr a
  rintro v w1 ⟨rfl, hN2⟩ a fr
  replace hV := hV.new hN2
  replace hF := hF.trNew hN2
  rw [hr] at fr
  refine fx_val (v := .bool true) fr rfl rfl (by first | decide | simp) (x_not rfl (fr.ev rfl) rfl) ?_
  clear fr a; intro a fr
  refine fx_val (v := .bool true) fr rfl rfl (by first | decide | simp) (x_move rfl (fr.ev rfl)) ?_
  clear fr a; intro a fr
  refine fx_skip fr (fr.unwant rfl rfl rfl (by decide)) rfl (by first | decide | simp) ?_
  clear fr a; intro a fr
  refine fx_skip fr (fr.unwant rfl rfl rfl (by decide)) rfl (by first | decide | simp) ?_
  clear fr a; intro a fr
  refine fx_skip fr (fr.unwant rfl rfl rfl (by decide)) rfl (by first | decide | simp) ?_
  clear fr a; intro a fr
  refine fx_val (v := .bool true) fr rfl rfl (by first | decide | simp) (x_pick_t rfl (fr.ev rfl) rfl) ?_
  clear fr a; intro a fr
  refine wpList_nil ?_
  refine fx_next ?_
  refine fx_cond_t fr rfl ?_
  refine wp_seq ?_
  refine wp_region_lit ?_  -- region 2
  refine fx_call fr rfl rfl (by first | decide | simp) (x_call (vs := []) rfl rfl trivial Try.func11 nm11 rfl) (works_c _) ?_
  clear fr a
  rintro v w3 ⟨rfl, hN4⟩ a fr
  replace hV := hV.new hN4
  replace hF := hF.trNew hN4
  refine fx_val (v := .bool true) fr rfl rfl (by first | decide | simp) (x_assign rfl (fr.ev rfl)) ?_
  clear fr a; intro a fr
  refine wpList_nil ?_
  refine fx_next ?_
  refine wp_ret ?_
  refine fx_rt ?_
  refine fx_ret fr [.tmp 6] [.bool true] rfl ⟨rfl, trivial⟩ rfl ?_
  exact ⟨_, rfl, rfl, hF⟩
set_option maxRecDepth 100000 in
set_option maxHeartbeats 4000000 in
theorem puts_yes {w : World} {P : Option Addr} {cp : Nat} {la : List Ln} (hV : View lnE w P cp la) (n : Nat) (ways : Int) (hr : rightB ((n : Nat) : Int) ways = true) : Calls Try.prog 5 #[.int .i64 ((n : Nat) : Int), .int .i64 ways, .slice P la.length cp] w (Ret fun v w' => v = .bool true ∧ New w w') := by
  have hVl := hV.len
  unfold maxLen at hVl
  have hrb := right_bd hr
  have hF := Only.refl (fun _ => False) w
  refine fx_enter Try.func5 rfl (N := (68, [])) (T := [(0, .int .i64 ((n : Nat) : Int)), (1, .int .i64 ways), (2, .slice P la.length cp)]) rfl (show 3 ≤ 68 by decide) ⟨rfl, rfl, rfl, trivial⟩ fun a fr => ?_
  refine wp_seq ?_
  refine wp_region_lit ?_  -- region 0
  refine fx_val (v := .bool false) fr rfl rfl (by first | decide | simp) (x_assign rfl rfl) ?_
  clear fr a; intro a fr
  refine wpList_nil ?_
  refine fx_next ?_
  refine wp_seq ?_
  refine wp_seq ?_
  refine wp_region_lit ?_  -- region 1
  refine fx_val (v := .int .i64 ((n : Nat) : Int)) fr rfl rfl (by first | decide | simp) (x_move rfl (fr.ev rfl)) ?_
  clear fr a; intro a fr
  refine fx_val (v := .int .i64 ways) fr rfl rfl (by first | decide | simp) (x_move rfl (fr.ev rfl)) ?_
  clear fr a; intro a fr
  refine fx_call fr rfl rfl (by first | decide | simp) (x_call (vs := [.int .i64 ((n : Nat) : Int), .int .i64 ways]) rfl rfl ⟨(fr.ev rfl), (fr.ev rfl), trivial⟩ Try.func10 nm10 rfl) (right_c ((n : Nat) : Int) ways _) ?_
  clear fr a
  rintro v w1 ⟨rfl, hN2⟩ a fr
  replace hV := hV.new hN2
  replace hF := hF.trNew hN2
  rw [hr] at fr
  refine fx_val (v := .bool false) fr rfl rfl (by first | decide | simp) (x_not rfl (fr.ev rfl) rfl) ?_
  clear fr a; intro a fr
  refine fx_val (v := .bool false) fr rfl rfl (by first | decide | simp) (x_move rfl (fr.ev rfl)) ?_
  clear fr a; intro a fr
  refine fx_val (v := .slice P la.length cp) fr (fr.want rfl rfl rfl) rfl (by first | decide | simp) (x_move rfl (fr.ev rfl)) ?_
  clear fr a; intro a fr
  refine fx_val (v := .int .i64 ((la.length : Nat) : Int)) fr (fr.want rfl rfl rfl) rfl (by first | decide | simp) (x_len Try.underlying26 rfl (fr.ev rfl)) ?_
  clear fr a; intro a fr
  refine fx_val (v := .bool (decide (100 < ((la.length : Nat) : Int)))) fr (fr.want rfl rfl rfl) rfl (by first | decide | simp) (x_gtr rfl (fr.ev rfl) rfl rfl) ?_
  clear fr a; intro a fr
  refine fx_val (v := .bool (decide (100 < ((la.length : Nat) : Int)))) fr rfl rfl (by first | decide | simp) (x_pick_f rfl (fr.ev rfl) (fr.ev rfl)) ?_
  clear fr a; intro a fr
  refine wpList_nil ?_
  refine fx_next ?_
  refine fx_cond fr rfl (fun hc3 => ?_) (fun hc3 => ?_)
  · skip
    have hc3 := of_decide_eq_true hc3
    refine wp_seq ?_
    refine wp_region_lit ?_  -- region 2
    refine fx_call fr rfl rfl (by first | decide | simp) (x_call (vs := []) rfl rfl trivial Try.func11 nm11 rfl) (works_c _) ?_
    clear fr a
    rintro v w4 ⟨rfl, hN5⟩ a fr
    replace hV := hV.new hN5
    replace hF := hF.trNew hN5
    refine fx_val (v := .bool true) fr rfl rfl (by first | decide | simp) (x_assign rfl (fr.ev rfl)) ?_
    clear fr a; intro a fr
    refine wpList_nil ?_
    refine fx_next ?_
    refine wp_ret ?_
    refine fx_rt ?_
    refine fx_ret fr [.tmp 6] [.bool true] rfl ⟨rfl, trivial⟩ rfl ?_
    exact ⟨_, rfl, rfl, hF⟩
  · skip
    have hc3 := of_decide_eq_false hc3
    refine wp_skip ?_
    refine fx_next ?_
    refine wp_seq ?_
    refine wp_region_lit ?_  -- region 3
    refine fx_val (v := .int .i64 ((n : Nat) : Int)) fr rfl rfl (by first | decide | simp) (x_move rfl (fr.ev rfl)) ?_
    clear fr a; intro a fr
    refine fx_val (v := .int .i64 ways) fr rfl rfl (by first | decide | simp) (x_move rfl (fr.ev rfl)) ?_
    clear fr a; intro a fr
    refine fx_call fr rfl rfl (by first | decide | simp) (x_call (vs := [.int .i64 ((n : Nat) : Int), .int .i64 ways]) rfl rfl ⟨(fr.ev rfl), (fr.ev rfl), trivial⟩ Try.func18 nm18 rfl) (new_yes n ways _ hr) ?_
    clear fr a
    rintro v w10 ⟨b6, Fp7, rfl, H8, hb9, hN11⟩ a fr
    have ap2_P_Fp7 : ∀ k, inA P k → Fp7 k → False := symP (new_apart2P hb9 fun _ hg => hV.lt hg)
    have gA_Fp7 := gA_newP hF hb9
    replace hV := hV.new hN11
    replace hF := hF.trNew hN11
    refine fx_val (v := .tuple #[.pointer (some ⟨b6, 0, none⟩), .int .i64 0]) fr rfl rfl (by first | decide | simp) (x_move rfl (fr.ev rfl)) ?_
    clear fr a; intro a fr
    refine fx_val (v := .pointer (some ⟨b6, 0, none⟩)) fr rfl rfl (by first | decide | simp) (x_extract rfl (fr.ev rfl) rfl) ?_
    clear fr a; intro a fr
    refine fx_val (v := .int .i64 0) fr rfl rfl (by first | decide | simp) (x_extract rfl (fr.ev rfl) rfl) ?_
    clear fr a; intro a fr
    refine fx_val (v := .pointer (some ⟨b6, 0, none⟩)) fr rfl rfl (by first | decide | simp) (x_assign rfl (fr.ev rfl)) ?_
    clear fr a; intro a fr
    refine fx_val (v := .int .i64 0) fr rfl rfl (by first | decide | simp) (x_assign rfl (fr.ev rfl)) ?_
    clear fr a; intro a fr
    refine wpList_nil ?_
    refine fx_next ?_
    refine wp_seq ?_
    refine wp_region_lit ?_  -- region 4
    refine fx_val (v := .int .i64 ((n : Nat) : Int)) fr rfl rfl (by first | decide | simp) (x_move rfl (fr.ev rfl)) ?_
    clear fr a; intro a fr
    refine fx_val (v := .int .i64 ways) fr rfl rfl (by first | decide | simp) (x_move rfl (fr.ev rfl)) ?_
    clear fr a; intro a fr
    refine fx_val (v := .agg (#[.int .i64 ((n : Nat) : Int), .int .i64 ways, .slice none 0 0])) fr rfl rfl (by first | decide | simp) (x_build (cells := #[.int .i64 ((n : Nat) : Int), .int .i64 ways, .slice none 0 0]) rfl (by simp only [List.map_toArray, List.map_cons, List.map_nil, show a.eval (.tmp 29) = .int .i64 ((n : Nat) : Int) from fr.ev rfl, show a.eval (.tmp 30) = .int .i64 ways from fr.ev rfl]; kernel_rfl)) ?_
    clear fr a; intro a fr
    refine fx_new fr rfl rfl (by first | decide | simp) (x_alloc (z := .agg (#[.int .i64 0, .int .i64 0, .slice none 0 0])) (cs := #[.int .i64 0, .int .i64 0, .slice none 0 0]) rfl (by kernel_rfl) rfl) ?_
    clear fr a
    intro b12 w13 hN14 B15 hb16 a fr
    have ap_P_b12 : Apart P b12 := hV.apart hb16
    have ap_Fp7_b12 : ¬ Fp7 b12 := H8.apart hb16
    have g_b12 := Nat.le_trans hF.size hb16
    replace hV := hV.new hN14
    replace H8 := H8.new hN14
    replace hF := hF.trNew hN14
    refine fx_storeS sz28 rfl rfl rfl (fr.ev rfl) (fr.ev rfl) (by simp [Value.oneCell']) B15 rfl rfl fun w17 hO18 hBq => ?_
    replace hV := hV.only hO18 (Apart.ne1 ap_P_b12)
    replace H8 := H8.only hO18 (ne1P ap_Fp7_b12)
    replace hF := hF.loc hO18 (.inr g_b12)
    replace B15 := hBq
    clear hBq
    refine wpList_nil ?_
    refine fx_next ?_
    refine wp_seq ?_
    refine wp_seq ?_
    refine wp_region_lit ?_  -- region 5
    refine fx_val (v := .int .i64 0) fr rfl rfl (by first | decide | simp) (x_assign rfl rfl) ?_
    clear fr a; intro a fr
    refine wpList_nil ?_
    refine fx_next ?_
    refine wp_block ?_
    refine fx_loop (fun nM a wL => ∃ L : List Ln, ∃ FpX : Nat → Prop, ∃ V : Option Addr, ∃ vc : Nat, ∃ i : Nat, nM = la.length - i ∧ Fr (68, []) [(2, .slice P la.length cp), (6, .bool false), (7, .pointer (some ⟨b6, 0, none⟩)), (8, .int .i64 0), (9, .pointer (some ⟨b12, 0, none⟩)), (10, .int .i64 ((i : Nat) : Int))] a ∧ Only (fun _ => False) w wL ∧ View lnE wL P cp la ∧ LinesAt wL FpX b6 n ways L ∧ Blk wL b12 28 #[.int .i64 ((n : Nat) : Int), .int .i64 ways, .slice V L.length vc] ∧ View lnE wL V vc L ∧ i ≤ la.length ∧ L.length ≤ i ∧ (∀ k, inA P k → FpX k → False) ∧ (¬ FpX b12) ∧ (∀ k, FpX k → inA V k → False) ∧ (Apart V b12) ∧ (∀ g, FpX g → (fun _ => False) g ∨ w.heap.size ≤ g) ∧ (∀ g, inA V g → (fun _ => False) g ∨ w.heap.size ≤ g)) (n0 := _) ⟨[], Fp7, none, 0, 0, rfl, fr.sub ⟨rfl, rfl, rfl, rfl, rfl, rfl, trivial⟩, hF, hV, H8, B15, View.nil, by omega, Nat.le_refl _, ap2_P_Fp7, ap_Fp7_b12, (fun k _ h => apart_none k h), (apart_none b12), gA_Fp7, gA_none⟩ ?_
    rintro n20 a w19 ⟨L, FpX, V, vc, i, rfl, fr, hF, hV, H, B15, hW, hi, hLi, ap2_P_FpX, ap_FpX_b12, ap2_FpX_V, ap_V_b12, gA_FpX, gA_V⟩
    refine wp_seq ?_
    refine wp_seq ?_
    refine wp_region_lit ?_  -- region 6
    refine fx_val (v := .int .i64 ((i : Nat) : Int)) fr rfl rfl (by first | decide | simp) (x_move rfl (fr.ev rfl)) ?_
    clear fr a; intro a fr
    refine fx_val (v := .slice P la.length cp) fr rfl rfl (by first | decide | simp) (x_move rfl (fr.ev rfl)) ?_
    clear fr a; intro a fr
    refine fx_val (v := .int .i64 ((la.length : Nat) : Int)) fr rfl rfl (by first | decide | simp) (x_len Try.underlying26 rfl (fr.ev rfl)) ?_
    clear fr a; intro a fr
    refine fx_val (v := .bool (decide (((i : Nat) : Int) < ((la.length : Nat) : Int)))) fr rfl rfl (by first | decide | simp) (x_lss rfl (fr.ev rfl) (fr.ev rfl) rfl) ?_
    clear fr a; intro a fr
    refine wpList_nil ?_
    refine fx_next ?_
    refine fx_cond fr rfl (fun hc21 => ?_) (fun hc21 => ?_)
    · skip
      have hc21 := of_decide_eq_true hc21
      refine wp_skip ?_
      refine fx_next ?_
      refine wp_seq ?_
      refine wp_block ?_
      refine wp_seq ?_
      refine fx_heldT (n := 11) (k := 11) (fun w => View lnE w P cp la ∧ LinesAt w FpX b6 n ways L ∧ Blk w b12 28 #[.int .i64 ((n : Nat) : Int), .int .i64 ways, .slice V L.length vc] ∧ View lnE w V vc L ∧ True) (by kernel_rfl) (by kernel_rfl) rfl ?_  -- region 8
      intro w22 hN23
      replace hV := hV.new hN23
      replace H := H.new hN23
      replace B15 := B15.new hN23
      replace hW := hW.new hN23
      replace hF := hF.trNew hN23
      refine fx_take (i := 0) (v := .agg (#[.int .i64 ((n : Nat) : Int), .int .i64 ways, .slice V L.length vc])) fr rfl (by kernel_rfl) rfl rfl (by first | decide | simp) (fun _ _ _ h => h) (fun _ ⟨hV, H, B15, hW, _⟩ => x_loadS ag28 rfl (fr.ev rfl) rfl B15.range) ⟨hV, H, B15, hW, trivial⟩ ?_
      clear fr a; intro a fr
      refine fx_take (i := 1) (v := .slice P la.length cp) fr rfl (by kernel_rfl) rfl rfl (by first | decide | simp) (fun _ _ _ h => h) (fun _ ⟨hV, H, B15, hW, _⟩ => x_move rfl (fr.ev rfl)) ⟨hV, H, B15, hW, trivial⟩ ?_
      clear fr a; intro a fr
      refine fx_take (i := 2) (v := .int .i64 ((i : Nat) : Int)) fr rfl (by kernel_rfl) rfl rfl (by first | decide | simp) (fun _ _ _ h => h) (fun _ ⟨hV, H, B15, hW, _⟩ => x_move rfl (fr.ev rfl)) ⟨hV, H, B15, hW, trivial⟩ ?_
      clear fr a; intro a fr
      obtain ⟨g24, o25, hA26⟩ := (hV).some_ (by omega)
      refine fx_take (i := 3) (v := .pointer (some ⟨g24, o25 + i * 18, none⟩)) fr rfl (by kernel_rfl) rfl rfl (by first | decide | simp) (fun _ _ _ h => h) (fun _ ⟨hV, H, B15, hW, _⟩ => x_indexV Try.underlying26 sz39 rfl (fr.ev rfl) hA26 (fr.ev rfl) (by omega) rfl) ⟨hV, H, B15, hW, trivial⟩ ?_
      clear fr a; intro a fr
      refine fx_take (i := 4) (v := .agg (lnE.arr (la.getD i ln0))) fr rfl (by kernel_rfl) rfl rfl (by first | decide | simp) (fun _ _ _ h => h) (fun _ ⟨hV, H, B15, hW, _⟩ => x_loadE (E := lnE) ag39 rfl rfl (fr.ev rfl) ((hV).elem hA26 i ln0 (by omega))) ⟨hV, H, B15, hW, trivial⟩ ?_
      clear fr a; intro a fr
      refine fx_two (i := 5) (j := 9) (by kernel_rfl) (fx_op rfl ?_) (fx_op rfl ?_)
      · skip
        refine fx_call fr rfl rfl (by first | decide | simp) (x_call (vs := [.agg (#[.int .i64 ((n : Nat) : Int), .int .i64 ways, .slice V L.length vc]), .agg (lnE.arr (la.getD i ln0))]) rfl rfl ⟨(fr.ev rfl), (fr.ev rfl), trivial⟩ Try.func19 nm19 rfl) (rput_c (la.getD i ln0) (n := n) (ways := ways) (L := L) (hW) (by first | omega | decide) (by omega) (by first | omega | decide)) ?_
        clear fr a
        rintro v w31 ⟨A27, cap28, rfl, V29, mv30, hN32⟩ a fr
        have ap2_A27_FpX : ∀ k, inA A27 k → FpX k → False := moved_apart2P mv30 (symP ap2_FpX_V) fun _ hg => H.lt hg
        have ap_A27_b12 : Apart A27 b12 := moved_apart mv30 ap_V_b12 B15.lt
        have gA_A27 := gA_moved hF mv30 gA_V
        replace hV := hV.new hN32
        replace H := H.new hN32
        replace B15 := B15.new hN32
        replace hW := hW.new hN32
        replace hF := hF.trNew hN32
        refine wpList_nil ?_
        refine ⟨⟨hV, H, B15, hW, trivial⟩, ?_⟩
        refine fx_take (i := 6) (v := .tuple #[.agg (#[.int .i64 ((n : Nat) : Int), .int .i64 ways, .slice A27 ((putL n ways L (la.getD i ln0)).length) cap28]), .int .i64 (putE n ways L (la.getD i ln0))]) fr rfl (by kernel_rfl) rfl rfl (by first | decide | simp) (fun _ _ _ h => h) (fun _ ⟨hV, H, B15, hW, _⟩ => x_move rfl (fr.ev rfl)) ⟨hV, H, B15, hW, trivial⟩ ?_
        clear fr a; intro a fr
        refine fx_take (i := 7) (v := .agg (#[.int .i64 ((n : Nat) : Int), .int .i64 ways, .slice A27 ((putL n ways L (la.getD i ln0)).length) cap28])) fr rfl (by kernel_rfl) rfl rfl (by first | decide | simp) (fun _ _ _ h => h) (fun _ ⟨hV, H, B15, hW, _⟩ => x_extract rfl (fr.ev rfl) rfl) ⟨hV, H, B15, hW, trivial⟩ ?_
        clear fr a; intro a fr
        refine fx_take (i := 8) (v := .int .i64 (putE n ways L (la.getD i ln0))) fr rfl (by kernel_rfl) rfl rfl (by first | decide | simp) (fun _ _ _ h => h) (fun _ ⟨hV, H, B15, hW, _⟩ => x_extract rfl (fr.ev rfl) rfl) ⟨hV, H, B15, hW, trivial⟩ ?_
        clear fr a; intro a fr
        refine fx_one (i := 9) (by kernel_rfl) (fx_op rfl ?_)
        refine fx_new fr rfl rfl (by first | decide | simp) (x_alloc (z := .agg (#[.int .i64 0, .int .i64 0, .slice none 0 0])) (cs := #[.int .i64 0, .int .i64 0, .slice none 0 0]) rfl (by kernel_rfl) rfl) ?_
        clear fr a
        intro b33 w34 hN35 B36 hb37 a fr
        have ap_P_b33 : Apart P b33 := hV.apart hb37
        have ap_FpX_b33 : ¬ FpX b33 := H.apart hb37
        have ne_b12_b33 : NE b12 b33 := NE.mk (Nat.lt_of_lt_of_le B15.lt hb37)
        have ap_V_b33 : Apart V b33 := hW.apart hb37
        have ap_A27_b33 : Apart A27 b33 := V29.apart hb37
        have g_b33 := Nat.le_trans hF.size hb37
        replace hV := hV.new hN35
        replace H := H.new hN35
        replace B15 := B15.new hN35
        replace hW := hW.new hN35
        replace V29 := V29.new hN35
        replace hF := hF.trNew hN35
        refine wpList_nil ?_
        refine ⟨⟨hV, H, B15, hW, trivial⟩, ?_⟩
        refine fx_one (i := 10) (by kernel_rfl) (fx_op rfl ?_)
        refine fx_storeS sz28 rfl rfl rfl (fr.ev rfl) (fr.ev rfl) (by simp [Value.oneCell']) B36 rfl rfl fun w38 hO39 hBq => ?_
        replace hV := hV.only hO39 (Apart.ne1 ap_P_b33)
        replace H := H.only hO39 (ne1P ap_FpX_b33)
        replace B15 := B15.only hO39 (by first | exact ne_b12_b33 | exact ne_b33_b12.symm | (show ¬ b12 = b33; omega))
        replace hW := hW.only hO39 (Apart.ne1 ap_V_b33)
        replace V29 := V29.only hO39 (Apart.ne1 ap_A27_b33)
        replace hF := hF.loc hO39 (.inr g_b33)
        replace B36 := hBq
        clear hBq
        refine wpList_nil ?_
        refine ⟨⟨hV, H, B15, hW, trivial⟩, ?_⟩
        refine fx_hdone (by kernel_rfl) ?_
        refine fx_tail ?_
        refine fx_val (v := .int .i64 (putE n ways L (la.getD i ln0))) fr rfl rfl (by first | decide | simp) (x_assign rfl (fr.ev rfl)) ?_
        clear fr a; intro a fr
        refine wpList_nil ?_
        refine fx_next ?_
        refine wp_seq ?_
        refine wp_region_lit ?_  -- region 9
        refine fx_val (v := .agg (#[.int .i64 ((n : Nat) : Int), .int .i64 ways, .slice A27 ((putL n ways L (la.getD i ln0)).length) cap28])) fr rfl rfl (by first | decide | simp) (x_loadS ag28 rfl (fr.ev rfl) rfl B36.range) ?_
        clear fr a; intro a fr
        refine fx_storeS sz28 rfl rfl rfl (fr.ev rfl) (fr.ev rfl) (by simp [Value.oneCell']) B15 rfl rfl fun w40 hO41 hBq => ?_
        replace hV := hV.only hO41 (Apart.ne1 ap_P_b12)
        replace H := H.only hO41 (ne1P ap_FpX_b12)
        replace hW := hW.only hO41 (Apart.ne1 ap_V_b12)
        replace V29 := V29.only hO41 (Apart.ne1 ap_A27_b12)
        replace B36 := B36.only hO41 (by first | exact ne_b33_b12 | exact ne_b12_b33.symm | (show ¬ b33 = b12; omega))
        replace hF := hF.loc hO41 (.inr g_b12)
        replace B15 := hBq
        clear hBq
        refine wpList_nil ?_
        refine fx_next ?_
        refine wp_seq ?_
        refine wp_region_lit ?_  -- region 10
        refine fx_val (v := .pointer (some ⟨b6, 0, none⟩)) fr rfl rfl (by first | decide | simp) (x_move rfl (fr.ev rfl)) ?_
        clear fr a; intro a fr
        refine fx_val (v := .slice P la.length cp) fr rfl rfl (by first | decide | simp) (x_move rfl (fr.ev rfl)) ?_
        clear fr a; intro a fr
        refine fx_val (v := .int .i64 ((i : Nat) : Int)) fr rfl rfl (by first | decide | simp) (x_move rfl (fr.ev rfl)) ?_
        clear fr a; intro a fr
        refine fx_val (v := .pointer (some ⟨g24, o25 + i * 18, none⟩)) fr rfl rfl (by first | decide | simp) (x_indexV Try.underlying26 sz39 rfl (fr.ev rfl) hA26 (fr.ev rfl) (by omega) rfl) ?_
        clear fr a; intro a fr
        refine fx_val (v := .agg (lnE.arr (la.getD i ln0))) fr rfl rfl (by first | decide | simp) (x_loadE (E := lnE) ag39 rfl rfl (fr.ev rfl) ((hV).elem hA26 i ln0 (by omega))) ?_
        clear fr a; intro a fr
        refine fx_call fr rfl rfl (by first | decide | simp) (x_call (vs := [.pointer (some ⟨b6, 0, none⟩), .agg (lnE.arr (la.getD i ln0))]) rfl rfl ⟨(fr.ev rfl), (fr.ev rfl), trivial⟩ Try.func21 nm21 rfl) (put_c (la.getD i ln0) H) ?_
        clear fr a
        rintro v w45 ⟨rfl, Fp42, H43, hN46, mv44⟩ a fr
        have ap2_Fp42_P : ∀ k, Fp42 k → inA P k → False := moved_apart2P mv44 (symP ap2_P_FpX) fun _ hg => hV.lt hg
        have ap2_Fp42_V : ∀ k, Fp42 k → inA V k → False := moved_apart2P mv44 ap2_FpX_V fun _ hg => hW.lt hg
        have ap2_Fp42_A27 : ∀ k, Fp42 k → inA A27 k → False := moved_apart2P mv44 (symP ap2_A27_FpX) fun _ hg => V29.lt hg
        have ap_Fp42_b33 : ¬ Fp42 b33 := moved_apartP mv44 ap_FpX_b33 B36.lt
        have ap_Fp42_b12 : ¬ Fp42 b12 := moved_apartP mv44 ap_FpX_b12 B15.lt
        have gA_Fp42 := gA_movedP hF mv44 gA_FpX
        replace hV := hV.only hN46 (fun g h1 h2 => ap2_P_FpX g h1 h2)
        replace hW := hW.only hN46 (fun g h1 h2 => (symP ap2_FpX_V) g h1 h2)
        replace V29 := V29.only hN46 (fun g h1 h2 => ap2_A27_FpX g h1 h2)
        replace B36 := B36.only hN46 ap_FpX_b33
        replace B15 := B15.only hN46 ap_FpX_b12
        replace hF := hF.locP hN46 gA_FpX
        clear H
        refine fx_call fr rfl rfl (by first | decide | simp) (x_call (vs := [.int .i64 (putE n ways L (la.getD i ln0))]) rfl rfl ⟨(fr.ev rfl), trivial⟩ Try.func20 nm20 rfl) (num_c (putE n ways L (la.getD i ln0)) _) ?_
        clear fr a
        rintro v w9 ⟨rfl, hw9⟩ a fr
        obtain rfl := hw9.symm
        refine fx_val (v := .int .i64 (putE n ways L (la.getD i ln0))) fr rfl rfl (by first | decide | simp) (x_move rfl (fr.ev rfl)) ?_
        clear fr a; intro a fr
        refine fx_val (v := .bool false) fr rfl rfl (by first | decide | simp) (x_neq rfl (fr.ev rfl) (fr.ev rfl) (by simp)) ?_
        clear fr a; intro a fr
        refine wpList_nil ?_
        refine fx_next ?_
        refine fx_cond_f fr rfl ?_
        refine wp_skip ?_
        refine fx_blk ?_
        refine fx_next ?_
        refine wp_region_lit ?_  -- region 7
        refine fx_val (v := .int .i64 ((i : Nat) : Int)) fr rfl rfl (by first | decide | simp) (x_move rfl (fr.ev rfl)) ?_
        clear fr a; intro a fr
        refine fx_val (v := .int .i64 ((i + 1 : Nat) : Int)) fr rfl rfl (by first | decide | simp) (x_add rfl (fr.ev rfl) rfl (i64w (r := ((i + 1 : Nat) : Int)) (by omega) (by omega))) ?_
        clear fr a; intro a fr
        refine fx_val (v := .int .i64 ((i + 1 : Nat) : Int)) fr rfl rfl (by first | decide | simp) (x_assign rfl (fr.ev rfl)) ?_
        clear fr a; intro a fr
        refine wpList_nil ?_
        refine fx_next ?_
        exact ⟨_, by omega, (putL n ways L (la.getD i ln0)), Fp42, A27, cap28, (i + 1), rfl, fr.sub ⟨rfl, rfl, rfl, rfl, rfl, rfl, trivial⟩, hF, hV, H43, B15, V29, by omega, (by have := putL_le n ways L (la.getD i ln0); omega), (symP ap2_Fp42_P), ap_Fp42_b12, ap2_Fp42_A27, ap_A27_b12, gA_Fp42, gA_A27⟩
      · skip
        refine fx_new fr rfl rfl (by first | decide | simp) (x_alloc (z := .agg (#[.int .i64 0, .int .i64 0, .slice none 0 0])) (cs := #[.int .i64 0, .int .i64 0, .slice none 0 0]) rfl (by kernel_rfl) rfl) ?_
        clear fr a
        intro b49 w50 hN51 B52 hb53 a fr
        have ap_P_b49 : Apart P b49 := hV.apart hb53
        have ap_FpX_b49 : ¬ FpX b49 := H.apart hb53
        have ne_b12_b49 : NE b12 b49 := NE.mk (Nat.lt_of_lt_of_le B15.lt hb53)
        have ap_V_b49 : Apart V b49 := hW.apart hb53
        have g_b49 := Nat.le_trans hF.size hb53
        replace hV := hV.new hN51
        replace H := H.new hN51
        replace B15 := B15.new hN51
        replace hW := hW.new hN51
        replace hF := hF.trNew hN51
        refine wpList_nil ?_
        refine ⟨⟨hV, H, B15, hW, trivial⟩, ?_⟩
        refine fx_one (i := 5) (by kernel_rfl) (fx_op rfl ?_)
        refine fx_call fr rfl rfl (by first | decide | simp) (x_call (vs := [.agg (#[.int .i64 ((n : Nat) : Int), .int .i64 ways, .slice V L.length vc]), .agg (lnE.arr (la.getD i ln0))]) rfl rfl ⟨(fr.ev rfl), (fr.ev rfl), trivial⟩ Try.func19 nm19 rfl) (rput_c (la.getD i ln0) (n := n) (ways := ways) (L := L) (hW) (by first | omega | decide) (by omega) (by first | omega | decide)) ?_
        clear fr a
        rintro v w58 ⟨A54, cap55, rfl, V56, mv57, hN59⟩ a fr
        have ap2_A54_FpX : ∀ k, inA A54 k → FpX k → False := moved_apart2P mv57 (symP ap2_FpX_V) fun _ hg => H.lt hg
        have ap_A54_b12 : Apart A54 b12 := moved_apart mv57 ap_V_b12 B15.lt
        have ap_A54_b49 : Apart A54 b49 := moved_apart mv57 ap_V_b49 B52.lt
        have gA_A54 := gA_moved hF mv57 gA_V
        replace hV := hV.new hN59
        replace H := H.new hN59
        replace B15 := B15.new hN59
        replace hW := hW.new hN59
        replace B52 := B52.new hN59
        replace hF := hF.trNew hN59
        refine wpList_nil ?_
        refine ⟨⟨hV, H, B15, hW, trivial⟩, ?_⟩
        refine fx_take (i := 6) (v := .tuple #[.agg (#[.int .i64 ((n : Nat) : Int), .int .i64 ways, .slice A54 ((putL n ways L (la.getD i ln0)).length) cap55]), .int .i64 (putE n ways L (la.getD i ln0))]) fr rfl (by kernel_rfl) rfl rfl (by first | decide | simp) (fun _ _ _ h => h) (fun _ ⟨hV, H, B15, hW, _⟩ => x_move rfl (fr.ev rfl)) ⟨hV, H, B15, hW, trivial⟩ ?_
        clear fr a; intro a fr
        refine fx_take (i := 7) (v := .agg (#[.int .i64 ((n : Nat) : Int), .int .i64 ways, .slice A54 ((putL n ways L (la.getD i ln0)).length) cap55])) fr rfl (by kernel_rfl) rfl rfl (by first | decide | simp) (fun _ _ _ h => h) (fun _ ⟨hV, H, B15, hW, _⟩ => x_extract rfl (fr.ev rfl) rfl) ⟨hV, H, B15, hW, trivial⟩ ?_
        clear fr a; intro a fr
        refine fx_take (i := 8) (v := .int .i64 (putE n ways L (la.getD i ln0))) fr rfl (by kernel_rfl) rfl rfl (by first | decide | simp) (fun _ _ _ h => h) (fun _ ⟨hV, H, B15, hW, _⟩ => x_extract rfl (fr.ev rfl) rfl) ⟨hV, H, B15, hW, trivial⟩ ?_
        clear fr a; intro a fr
        refine fx_one (i := 10) (by kernel_rfl) (fx_op rfl ?_)
        refine fx_storeS sz28 rfl rfl rfl (fr.ev rfl) (fr.ev rfl) (by simp [Value.oneCell']) B52 rfl rfl fun w60 hO61 hBq => ?_
        replace hV := hV.only hO61 (Apart.ne1 ap_P_b49)
        replace H := H.only hO61 (ne1P ap_FpX_b49)
        replace B15 := B15.only hO61 (by first | exact ne_b12_b49 | exact ne_b49_b12.symm | (show ¬ b12 = b49; omega))
        replace hW := hW.only hO61 (Apart.ne1 ap_V_b49)
        replace V56 := V56.only hO61 (Apart.ne1 ap_A54_b49)
        replace hF := hF.loc hO61 (.inr g_b49)
        replace B52 := hBq
        clear hBq
        refine wpList_nil ?_
        refine ⟨⟨hV, H, B15, hW, trivial⟩, ?_⟩
        refine fx_hdone (by kernel_rfl) ?_
        refine fx_tail ?_
        refine fx_val (v := .int .i64 (putE n ways L (la.getD i ln0))) fr rfl rfl (by first | decide | simp) (x_assign rfl (fr.ev rfl)) ?_
        clear fr a; intro a fr
        refine wpList_nil ?_
        refine fx_next ?_
        refine wp_seq ?_
        refine wp_region_lit ?_  -- region 9
        refine fx_val (v := .agg (#[.int .i64 ((n : Nat) : Int), .int .i64 ways, .slice A54 ((putL n ways L (la.getD i ln0)).length) cap55])) fr rfl rfl (by first | decide | simp) (x_loadS ag28 rfl (fr.ev rfl) rfl B52.range) ?_
        clear fr a; intro a fr
        refine fx_storeS sz28 rfl rfl rfl (fr.ev rfl) (fr.ev rfl) (by simp [Value.oneCell']) B15 rfl rfl fun w62 hO63 hBq => ?_
        replace hV := hV.only hO63 (Apart.ne1 ap_P_b12)
        replace H := H.only hO63 (ne1P ap_FpX_b12)
        replace hW := hW.only hO63 (Apart.ne1 ap_V_b12)
        replace V56 := V56.only hO63 (Apart.ne1 ap_A54_b12)
        replace B52 := B52.only hO63 (by first | exact ne_b49_b12 | exact ne_b12_b49.symm | (show ¬ b49 = b12; omega))
        replace hF := hF.loc hO63 (.inr g_b12)
        replace B15 := hBq
        clear hBq
        refine wpList_nil ?_
        refine fx_next ?_
        refine wp_seq ?_
        refine wp_region_lit ?_  -- region 10
        refine fx_val (v := .pointer (some ⟨b6, 0, none⟩)) fr rfl rfl (by first | decide | simp) (x_move rfl (fr.ev rfl)) ?_
        clear fr a; intro a fr
        refine fx_val (v := .slice P la.length cp) fr rfl rfl (by first | decide | simp) (x_move rfl (fr.ev rfl)) ?_
        clear fr a; intro a fr
        refine fx_val (v := .int .i64 ((i : Nat) : Int)) fr rfl rfl (by first | decide | simp) (x_move rfl (fr.ev rfl)) ?_
        clear fr a; intro a fr
        refine fx_val (v := .pointer (some ⟨g24, o25 + i * 18, none⟩)) fr rfl rfl (by first | decide | simp) (x_indexV Try.underlying26 sz39 rfl (fr.ev rfl) hA26 (fr.ev rfl) (by omega) rfl) ?_
        clear fr a; intro a fr
        refine fx_val (v := .agg (lnE.arr (la.getD i ln0))) fr rfl rfl (by first | decide | simp) (x_loadE (E := lnE) ag39 rfl rfl (fr.ev rfl) ((hV).elem hA26 i ln0 (by omega))) ?_
        clear fr a; intro a fr
        refine fx_call fr rfl rfl (by first | decide | simp) (x_call (vs := [.pointer (some ⟨b6, 0, none⟩), .agg (lnE.arr (la.getD i ln0))]) rfl rfl ⟨(fr.ev rfl), (fr.ev rfl), trivial⟩ Try.func21 nm21 rfl) (put_c (la.getD i ln0) H) ?_
        clear fr a
        rintro v w67 ⟨rfl, Fp64, H65, hN68, mv66⟩ a fr
        have ap2_Fp64_P : ∀ k, Fp64 k → inA P k → False := moved_apart2P mv66 (symP ap2_P_FpX) fun _ hg => hV.lt hg
        have ap2_Fp64_V : ∀ k, Fp64 k → inA V k → False := moved_apart2P mv66 ap2_FpX_V fun _ hg => hW.lt hg
        have ap2_Fp64_A54 : ∀ k, Fp64 k → inA A54 k → False := moved_apart2P mv66 (symP ap2_A54_FpX) fun _ hg => V56.lt hg
        have ap_Fp64_b49 : ¬ Fp64 b49 := moved_apartP mv66 ap_FpX_b49 B52.lt
        have ap_Fp64_b12 : ¬ Fp64 b12 := moved_apartP mv66 ap_FpX_b12 B15.lt
        have gA_Fp64 := gA_movedP hF mv66 gA_FpX
        replace hV := hV.only hN68 (fun g h1 h2 => ap2_P_FpX g h1 h2)
        replace hW := hW.only hN68 (fun g h1 h2 => (symP ap2_FpX_V) g h1 h2)
        replace V56 := V56.only hN68 (fun g h1 h2 => ap2_A54_FpX g h1 h2)
        replace B52 := B52.only hN68 ap_FpX_b49
        replace B15 := B15.only hN68 ap_FpX_b12
        replace hF := hF.locP hN68 gA_FpX
        clear H
        refine fx_call fr rfl rfl (by first | decide | simp) (x_call (vs := [.int .i64 (putE n ways L (la.getD i ln0))]) rfl rfl ⟨(fr.ev rfl), trivial⟩ Try.func20 nm20 rfl) (num_c (putE n ways L (la.getD i ln0)) _) ?_
        clear fr a
        rintro v w9 ⟨rfl, hw9⟩ a fr
        obtain rfl := hw9.symm
        refine fx_val (v := .int .i64 (putE n ways L (la.getD i ln0))) fr rfl rfl (by first | decide | simp) (x_move rfl (fr.ev rfl)) ?_
        clear fr a; intro a fr
        refine fx_val (v := .bool false) fr rfl rfl (by first | decide | simp) (x_neq rfl (fr.ev rfl) (fr.ev rfl) (by simp)) ?_
        clear fr a; intro a fr
        refine wpList_nil ?_
        refine fx_next ?_
        refine fx_cond_f fr rfl ?_
        refine wp_skip ?_
        refine fx_blk ?_
        refine fx_next ?_
        refine wp_region_lit ?_  -- region 7
        refine fx_val (v := .int .i64 ((i : Nat) : Int)) fr rfl rfl (by first | decide | simp) (x_move rfl (fr.ev rfl)) ?_
        clear fr a; intro a fr
        refine fx_val (v := .int .i64 ((i + 1 : Nat) : Int)) fr rfl rfl (by first | decide | simp) (x_add rfl (fr.ev rfl) rfl (i64w (r := ((i + 1 : Nat) : Int)) (by omega) (by omega))) ?_
        clear fr a; intro a fr
        refine fx_val (v := .int .i64 ((i + 1 : Nat) : Int)) fr rfl rfl (by first | decide | simp) (x_assign rfl (fr.ev rfl)) ?_
        clear fr a; intro a fr
        refine wpList_nil ?_
        refine fx_next ?_
        exact ⟨_, by omega, (putL n ways L (la.getD i ln0)), Fp64, A54, cap55, (i + 1), rfl, fr.sub ⟨rfl, rfl, rfl, rfl, rfl, rfl, trivial⟩, hF, hV, H65, B15, V56, by omega, (by have := putL_le n ways L (la.getD i ln0); omega), (symP ap2_Fp64_P), ap_Fp64_b12, ap2_Fp64_A54, ap_A54_b12, gA_Fp64, gA_A54⟩
    · skip
      have hc21 := of_decide_eq_false hc21
      refine wp_exit ?_
      refine fx_xt ?_
      refine fx_xt ?_
      refine fx_xx ?_
      refine fx_next ?_
      refine wp_seq ?_
      refine wp_region_lit ?_  -- region 12
      refine fx_val (v := .int .i64 0) fr rfl rfl (by first | decide | simp) (x_move rfl (fr.ev rfl)) ?_
      clear fr a; intro a fr
      refine fx_call fr rfl rfl (by first | decide | simp) (x_call (vs := [.int .i64 0]) rfl rfl ⟨(fr.ev rfl), trivial⟩ Try.func20 nm20 rfl) (num_c 0 _) ?_
      clear fr a
      rintro v w9 ⟨rfl, hw9⟩ a fr
      obtain rfl := hw9.symm
      refine fx_val (v := .bool true) fr rfl rfl (by first | decide | simp) (x_eql rfl (fr.ev rfl) rfl rfl) ?_
      clear fr a; intro a fr
      refine fx_val (v := .bool true) fr rfl rfl (by first | decide | simp) (x_move rfl (fr.ev rfl)) ?_
      clear fr a; intro a fr
      refine fx_val (v := .pointer (some ⟨b6, 0, none⟩)) fr (fr.want rfl rfl rfl) rfl (by first | decide | simp) (x_move rfl (fr.ev rfl)) ?_
      clear fr a; intro a fr
      refine fx_val (v := .agg (#[.int .i64 ((n : Nat) : Int), .int .i64 ways, .slice V L.length vc])) fr (fr.want rfl rfl rfl) rfl (by first | decide | simp) (x_loadS ag28 rfl (fr.ev rfl) rfl B15.range) ?_
      clear fr a; intro a fr
      refine fx_call fr (fr.want rfl rfl rfl) rfl (by first | decide | simp) (x_call (vs := [.pointer (some ⟨b6, 0, none⟩), .agg (#[.int .i64 ((n : Nat) : Int), .int .i64 ways, .slice V L.length vc])]) rfl rfl ⟨(fr.ev rfl), (fr.ev rfl), trivial⟩ Try.func13 nm13 rfl) (is_c H (hW) (by omega)) ?_
      clear fr a
      rintro v w73 ⟨rfl, hN74⟩ a fr
      replace hV := hV.new hN74
      replace H := H.new hN74
      replace B15 := B15.new hN74
      replace hW := hW.new hN74
      replace hF := hF.trNew hN74
      refine fx_val (v := .bool true) fr rfl rfl (by first | decide | simp) (x_pick_t rfl (fr.ev rfl) (fr.ev rfl)) ?_
      clear fr a; intro a fr
      refine fx_val (v := .bool true) fr rfl rfl (by first | decide | simp) (x_move rfl (fr.ev rfl)) ?_
      clear fr a; intro a fr
      refine fx_call fr (fr.want rfl rfl rfl) rfl (by first | decide | simp) (x_call (vs := []) rfl rfl trivial Try.func11 nm11 rfl) (works_c _) ?_
      clear fr a
      rintro v w75 ⟨rfl, hN76⟩ a fr
      replace hV := hV.new hN76
      replace H := H.new hN76
      replace B15 := B15.new hN76
      replace hW := hW.new hN76
      replace hF := hF.trNew hN76
      refine fx_val (v := .bool true) fr rfl rfl (by first | decide | simp) (x_pick_t rfl (fr.ev rfl) (fr.ev rfl)) ?_
      clear fr a; intro a fr
      refine fx_val (v := .bool true) fr rfl rfl (by first | decide | simp) (x_assign rfl (fr.ev rfl)) ?_
      clear fr a; intro a fr
      refine wpList_nil ?_
      refine fx_next ?_
      refine wp_ret ?_
      refine fx_ret fr [.tmp 6] [.bool true] rfl ⟨rfl, trivial⟩ rfl ?_
      exact ⟨_, rfl, rfl, hF⟩
end Go.Proofs.Ytdjgfkjcpalihaa
