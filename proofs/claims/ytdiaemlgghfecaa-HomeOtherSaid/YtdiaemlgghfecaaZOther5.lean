/-
  Part 5 of what the claim stands on: walks through the code, plain laws.
-/
import Derived.Test.YtdiaemlgghfecaaZOther4
namespace Go.Proofs.Ytdiaemlgghfecaa
open Go.RowKit
set_option maxRecDepth 100000 in
set_option maxHeartbeats 4000000 in
theorem made_1 {w : World} {A : Option Addr} {cap : Nat} {bs : List UInt8} (hV : View byE w A cap bs) (hok : okSize (bs.length : Int) = true) (h128 : ¬ 128 < ((bs.length : Nat) : Int)) : Calls Try.prog 9 #[.slice A bs.length cap] w (Ret fun v w' => ∃ b Fp A1 c1 B1 cb1 FR, v = .tuple #[.pointer (some ⟨b, 0, none⟩), .agg #[.slice A1 bs.length c1, .slice B1 (bs.length / 16) cb1], .bool true] ∧ HomeAt w' Fp b (home0 bs) ∧ RefH w' FR A1 c1 B1 cb1 (home0 bs) ∧ (∀ g, Fp g → w.heap.size ≤ g) ∧ (∀ g, FR g → w.heap.size ≤ g) ∧ (∀ k, Fp k → FR k → False) ∧ New w w') := by
  have hF := Only.refl (fun _ => False) w
  refine fx_enter Try.func9 rfl (N := (36, [])) (T := [(0, .slice A bs.length cap)]) rfl (show 1 ≤ 36 by decide) ⟨rfl, trivial⟩ fun a fr => ?_
  refine wp_seq ?_
  refine wp_region_lit ?_  -- region 0
  refine fx_val (v := .pointer none) fr rfl rfl (by first | decide | simp) (x_assign rfl rfl) ?_
  clear fr a; intro a fr
  refine fx_new fr rfl rfl (by first | decide | simp) (x_alloc (z := .agg (#[.slice none 0 0, .slice none 0 0])) (cs := #[.slice none 0 0, .slice none 0 0]) rfl (by kernel_rfl) rfl) ?_
  clear fr a
  intro b1 w2 hN3 B4 hb5 a fr
  have ap_A_b1 : Apart A b1 := hV.apart hb5
  have g_b1 := Nat.le_trans hF.size hb5
  replace hV := hV.new hN3
  replace hF := hF.trNew hN3
  refine fx_val (v := .bool false) fr rfl rfl (by first | decide | simp) (x_assign rfl rfl) ?_
  clear fr a; intro a fr
  refine wpList_nil ?_
  refine fx_next ?_
  refine wp_seq ?_
  refine wp_region_lit ?_  -- region 1
  refine fx_val (v := .slice A bs.length cap) fr rfl rfl (by first | decide | simp) (x_move rfl (fr.ev rfl)) ?_
  clear fr a; intro a fr
  refine fx_call fr rfl rfl (by first | decide | simp) (x_call (vs := [.slice A bs.length cap]) rfl rfl ⟨(fr.ev rfl), trivial⟩ Try.func25 nm25 rfl) (imgof_yes hV hok) ?_
  clear fr a
  rintro v w13 ⟨bi6, ig7, cap8, rfl, hI9, hb10, hg11, hne12, hN14⟩ a fr
  have ap_A_bi6 : Apart A bi6 := hV.apart hb10
  have ne_b1_bi6 : NE b1 bi6 := NE.mk (Nat.lt_of_lt_of_le B4.lt hb10)
  have g_bi6 := Nat.le_trans hF.size hb10
  have ap_A_ig7 : Apart A ig7 := hV.apart hg11
  have ne_b1_ig7 : NE b1 ig7 := NE.mk (Nat.lt_of_lt_of_le B4.lt hg11)
  have g_ig7 := Nat.le_trans hF.size hg11
  replace hV := hV.new hN14
  replace B4 := B4.new hN14
  replace hF := hF.trNew hN14
  have ne_bi6_ig7 := hne12
  refine fx_val (v := .tuple #[.pointer (some ⟨bi6, 0, none⟩), .int .i64 0]) fr rfl rfl (by first | decide | simp) (x_move rfl (fr.ev rfl)) ?_
  clear fr a; intro a fr
  refine fx_val (v := .pointer (some ⟨bi6, 0, none⟩)) fr rfl rfl (by first | decide | simp) (x_extract rfl (fr.ev rfl) rfl) ?_
  clear fr a; intro a fr
  refine fx_val (v := .int .i64 0) fr rfl rfl (by first | decide | simp) (x_extract rfl (fr.ev rfl) rfl) ?_
  clear fr a; intro a fr
  refine fx_val (v := .pointer (some ⟨bi6, 0, none⟩)) fr rfl rfl (by first | decide | simp) (x_assign rfl (fr.ev rfl)) ?_
  clear fr a; intro a fr
  refine fx_val (v := .int .i64 0) fr rfl rfl (by first | decide | simp) (x_assign rfl (fr.ev rfl)) ?_
  clear fr a; intro a fr
  refine wpList_nil ?_
  refine fx_next ?_
  refine wp_seq ?_
  refine wp_seq ?_
  refine wp_region_lit ?_  -- region 2
  refine fx_val (v := .int .i64 0) fr rfl rfl (by first | decide | simp) (x_move rfl (fr.ev rfl)) ?_
  clear fr a; intro a fr
  refine fx_val (v := .bool false) fr rfl rfl (by first | decide | simp) (x_neq rfl (fr.ev rfl) rfl rfl) ?_
  clear fr a; intro a fr
  refine fx_val (v := .bool false) fr rfl rfl (by first | decide | simp) (x_move rfl (fr.ev rfl)) ?_
  clear fr a; intro a fr
  refine fx_val (v := .slice A bs.length cap) fr (fr.want rfl rfl rfl) rfl (by first | decide | simp) (x_move rfl (fr.ev rfl)) ?_
  clear fr a; intro a fr
  refine fx_val (v := .int .i64 ((bs.length : Nat) : Int)) fr (fr.want rfl rfl rfl) rfl (by first | decide | simp) (x_len Try.underlying22 rfl (fr.ev rfl)) ?_
  clear fr a; intro a fr
  refine fx_val (v := .bool false) fr (fr.want rfl rfl rfl) rfl (by first | decide | simp) (x_gtr rfl (fr.ev rfl) rfl (decide_eq_false h128)) ?_
  clear fr a; intro a fr
  refine fx_val (v := .bool false) fr rfl rfl (by first | decide | simp) (x_pick_f rfl (fr.ev rfl) (fr.ev rfl)) ?_
  clear fr a; intro a fr
  refine wpList_nil ?_
  refine fx_next ?_
  refine fx_cond_f fr rfl ?_
  refine wp_skip ?_
  refine fx_next ?_
  refine wp_seq ?_
  refine wp_region_lit ?_  -- region 4
  refine fx_val (v := .pointer (some ⟨bi6, 0, none⟩)) fr rfl rfl (by first | decide | simp) (x_move rfl (fr.ev rfl)) ?_
  clear fr a; intro a fr
  refine fx_call fr rfl rfl (by first | decide | simp) (x_call (vs := [.pointer (some ⟨bi6, 0, none⟩)]) rfl rfl ⟨(fr.ev rfl), trivial⟩ Try.func22 nm22 rfl) (hnew_c hI9) ?_
  clear fr a
  rintro v w19 ⟨hb15, Fp16, rfl, H17, hf18, hN20⟩ a fr
  have ap2_A_Fp16 : ∀ k, inA A k → Fp16 k → False := symP (new_apart2P hf18 fun _ hg => hV.lt hg)
  have ap_Fp16_b1 : ¬ Fp16 b1 := new_apartP hf18 B4.lt
  have ap_Fp16_bi6 : ¬ Fp16 bi6 := new_apartP hf18 hI9.lt.1
  have ap_Fp16_ig7 : ¬ Fp16 ig7 := new_apartP hf18 hI9.lt.2
  have gA_Fp16 := gA_newP hF hf18
  have gN_Fp16 := fun g (hg : Fp16 g) => Nat.le_trans hF.size (hf18 g hg)
  replace hV := hV.new hN20
  replace B4 := B4.new hN20
  replace hI9 := hI9.new hN20
  replace hF := hF.trNew hN20
  refine fx_val (v := .tuple #[.pointer (some ⟨hb15, 0, none⟩), .int .i64 0]) fr rfl rfl (by first | decide | simp) (x_move rfl (fr.ev rfl)) ?_
  clear fr a; intro a fr
  refine fx_val (v := .pointer (some ⟨hb15, 0, none⟩)) fr rfl rfl (by first | decide | simp) (x_extract rfl (fr.ev rfl) rfl) ?_
  clear fr a; intro a fr
  refine fx_val (v := .int .i64 0) fr rfl rfl (by first | decide | simp) (x_extract rfl (fr.ev rfl) rfl) ?_
  clear fr a; intro a fr
  refine fx_val (v := .pointer (some ⟨hb15, 0, none⟩)) fr rfl rfl (by first | decide | simp) (x_assign rfl (fr.ev rfl)) ?_
  clear fr a; intro a fr
  refine fx_val (v := .int .i64 0) fr rfl rfl (by first | decide | simp) (x_assign rfl (fr.ev rfl)) ?_
  clear fr a; intro a fr
  refine wpList_nil ?_
  refine fx_next ?_
  refine wp_seq ?_
  refine wp_region_lit ?_  -- region 5
  refine fx_val (v := .pointer (some ⟨hb15, 0, none⟩)) fr rfl rfl (by first | decide | simp) (x_move rfl (fr.ev rfl)) ?_
  clear fr a; intro a fr
  refine fx_val (v := .slice A bs.length cap) fr rfl rfl (by first | decide | simp) (x_move rfl (fr.ev rfl)) ?_
  clear fr a; intro a fr
  refine fx_call fr rfl rfl (by first | decide | simp) (x_call (vs := [.slice A bs.length cap]) rfl rfl ⟨(fr.ev rfl), trivial⟩ Try.func26 nm26 rfl) (rnew_c hV (by omega)) ?_
  clear fr a
  rintro v w29 ⟨A21, cap22, B23, cb24, rfl, V25, V26, hA27, hB28, hN30⟩ a fr
  have ap2_A_A21 : Apart2 A A21 := (new_apart2 hA27 fun _ hg => hV.lt hg).symm
  have ap_A21_b1 : Apart A21 b1 := new_apart hA27 B4.lt
  have ap_A21_bi6 : Apart A21 bi6 := new_apart hA27 hI9.lt.1
  have ap_A21_ig7 : Apart A21 ig7 := new_apart hA27 hI9.lt.2
  have ap2_Fp16_A21 : ∀ k, Fp16 k → inA A21 k → False := symP (new_apart2P hA27 fun _ hg => H17.lt hg)
  have gA_A21 := gA_new hF hA27
  have gN_A21 := fun g (hg : inA A21 g) => Nat.le_trans hF.size (hA27 g hg)
  have ap2_A_B23 : Apart2 A B23 := (new_apart2 hB28 fun _ hg => hV.lt hg).symm
  have ap_B23_b1 : Apart B23 b1 := new_apart hB28 B4.lt
  have ap_B23_bi6 : Apart B23 bi6 := new_apart hB28 hI9.lt.1
  have ap_B23_ig7 : Apart B23 ig7 := new_apart hB28 hI9.lt.2
  have ap2_Fp16_B23 : ∀ k, Fp16 k → inA B23 k → False := symP (new_apart2P hB28 fun _ hg => H17.lt hg)
  have gA_B23 := gA_new hF hB28
  have gN_B23 := fun g (hg : inA B23 g) => Nat.le_trans hF.size (hB28 g hg)
  replace hV := hV.new hN30
  replace B4 := B4.new hN30
  replace hI9 := hI9.new hN30
  replace H17 := H17.new hN30
  replace hF := hF.trNew hN30
  refine fx_val (v := .int .i64 0) fr rfl rfl (by first | decide | simp) (x_move rfl (fr.ev rfl)) ?_
  clear fr a; intro a fr
  refine fx_val (v := .bool true) fr rfl rfl (by first | decide | simp) (x_eql rfl (fr.ev rfl) rfl rfl) ?_
  clear fr a; intro a fr
  refine fx_val (v := .bool true) fr rfl rfl (by first | decide | simp) (x_move rfl (fr.ev rfl)) ?_
  clear fr a; intro a fr
  refine fx_val (v := .pointer (some ⟨hb15, 0, none⟩)) fr (fr.want rfl rfl rfl) rfl (by first | decide | simp) (x_move rfl (fr.ev rfl)) ?_
  clear fr a; intro a fr
  refine fx_val (v := .bool true) fr (fr.want rfl rfl rfl) rfl (by first | decide | simp) (x_pneq Try.underlying25 rfl (fr.ev rfl) rfl rfl) ?_
  clear fr a; intro a fr
  refine fx_val (v := .bool true) fr rfl rfl (by first | decide | simp) (x_pick_t rfl (fr.ev rfl) (fr.ev rfl)) ?_
  clear fr a; intro a fr
  refine fx_val (v := .pointer (some ⟨hb15, 0, none⟩)) fr rfl rfl (by first | decide | simp) (x_assign rfl (fr.ev rfl)) ?_
  clear fr a; intro a fr
  refine fx_storeS sz28 rfl rfl rfl (fr.ev rfl) (fr.ev rfl) (by simp [Value.oneCell']) B4 rfl rfl fun w31 hO32 hBq => ?_
  replace hV := hV.only hO32 (Apart.ne1 ap_A_b1)
  replace hI9 := hI9.only hO32 (by first | exact ne_bi6_b1 | exact ne_b1_bi6.symm | (show ¬ bi6 = b1; omega)) (by first | exact ne_ig7_b1 | exact ne_b1_ig7.symm | (show ¬ ig7 = b1; omega))
  replace H17 := H17.only hO32 (ne1P ap_Fp16_b1)
  replace V25 := V25.only hO32 (Apart.ne1 ap_A21_b1)
  replace V26 := V26.only hO32 (Apart.ne1 ap_B23_b1)
  replace hF := hF.loc hO32 (.inr g_b1)
  replace B4 := hBq
  clear hBq
  refine fx_val (v := .bool true) fr rfl rfl (by first | decide | simp) (x_assign rfl (fr.ev rfl)) ?_
  clear fr a; intro a fr
  refine wpList_nil ?_
  refine fx_next ?_
  refine wp_ret ?_
  refine fx_ret fr [.tmp 2, .cell 3 28, .tmp 4] [.pointer (some ⟨hb15, 0, none⟩), .agg (#[.slice A21 bs.length cap22, .slice B23 (bs.length / 16) cb24]), .bool true] rfl ⟨rfl, ⟨_, rfl, x_loadV ag28 rfl B4.range⟩, rfl, trivial⟩ rfl ?_
  exact ⟨_, rfl, hb15, Fp16, A21, cap22, B23, cb24, _, rfl, H17, ref_new V25 V26, gN_Fp16, fun g hg => hg.elim (gN_A21 g) (gN_B23 g), fun k h1 h2 => h2.elim (ap2_Fp16_A21 k h1) (ap2_Fp16_B23 k h1), hF⟩
set_option maxRecDepth 100000 in
set_option maxHeartbeats 4000000 in
theorem made_2 {w : World} {A : Option Addr} {cap : Nat} {bs : List UInt8} (hV : View byE w A cap bs) (hok : okSize (bs.length : Int) = true) (h128 : 128 < ((bs.length : Nat) : Int)) : Calls Try.prog 9 #[.slice A bs.length cap] w (Ret fun v w' => v = .tuple #[.pointer none, .agg #[.slice none 0 0, .slice none 0 0], .bool false] ∧ New w w') := by
  have hF := Only.refl (fun _ => False) w
  refine fx_enter Try.func9 rfl (N := (36, [])) (T := [(0, .slice A bs.length cap)]) rfl (show 1 ≤ 36 by decide) ⟨rfl, trivial⟩ fun a fr => ?_
  refine wp_seq ?_
  refine wp_region_lit ?_  -- region 0
  refine fx_val (v := .pointer none) fr rfl rfl (by first | decide | simp) (x_assign rfl rfl) ?_
  clear fr a; intro a fr
  refine fx_new fr rfl rfl (by first | decide | simp) (x_alloc (z := .agg (#[.slice none 0 0, .slice none 0 0])) (cs := #[.slice none 0 0, .slice none 0 0]) rfl (by kernel_rfl) rfl) ?_
  clear fr a
  intro b1 w2 hN3 B4 hb5 a fr
  have ap_A_b1 : Apart A b1 := hV.apart hb5
  have g_b1 := Nat.le_trans hF.size hb5
  replace hV := hV.new hN3
  replace hF := hF.trNew hN3
  refine fx_val (v := .bool false) fr rfl rfl (by first | decide | simp) (x_assign rfl rfl) ?_
  clear fr a; intro a fr
  refine wpList_nil ?_
  refine fx_next ?_
  refine wp_seq ?_
  refine wp_region_lit ?_  -- region 1
  refine fx_val (v := .slice A bs.length cap) fr rfl rfl (by first | decide | simp) (x_move rfl (fr.ev rfl)) ?_
  clear fr a; intro a fr
  refine fx_call fr rfl rfl (by first | decide | simp) (x_call (vs := [.slice A bs.length cap]) rfl rfl ⟨(fr.ev rfl), trivial⟩ Try.func25 nm25 rfl) (imgof_yes hV hok) ?_
  clear fr a
  rintro v w13 ⟨bi6, ig7, cap8, rfl, hI9, hb10, hg11, hne12, hN14⟩ a fr
  have ap_A_bi6 : Apart A bi6 := hV.apart hb10
  have ne_b1_bi6 : NE b1 bi6 := NE.mk (Nat.lt_of_lt_of_le B4.lt hb10)
  have g_bi6 := Nat.le_trans hF.size hb10
  have ap_A_ig7 : Apart A ig7 := hV.apart hg11
  have ne_b1_ig7 : NE b1 ig7 := NE.mk (Nat.lt_of_lt_of_le B4.lt hg11)
  have g_ig7 := Nat.le_trans hF.size hg11
  replace hV := hV.new hN14
  replace B4 := B4.new hN14
  replace hF := hF.trNew hN14
  have ne_bi6_ig7 := hne12
  refine fx_val (v := .tuple #[.pointer (some ⟨bi6, 0, none⟩), .int .i64 0]) fr rfl rfl (by first | decide | simp) (x_move rfl (fr.ev rfl)) ?_
  clear fr a; intro a fr
  refine fx_val (v := .pointer (some ⟨bi6, 0, none⟩)) fr rfl rfl (by first | decide | simp) (x_extract rfl (fr.ev rfl) rfl) ?_
  clear fr a; intro a fr
  refine fx_val (v := .int .i64 0) fr rfl rfl (by first | decide | simp) (x_extract rfl (fr.ev rfl) rfl) ?_
  clear fr a; intro a fr
  refine fx_val (v := .pointer (some ⟨bi6, 0, none⟩)) fr rfl rfl (by first | decide | simp) (x_assign rfl (fr.ev rfl)) ?_
  clear fr a; intro a fr
  refine fx_val (v := .int .i64 0) fr rfl rfl (by first | decide | simp) (x_assign rfl (fr.ev rfl)) ?_
  clear fr a; intro a fr
  refine wpList_nil ?_
  refine fx_next ?_
  refine wp_seq ?_
  refine wp_seq ?_
  refine wp_region_lit ?_  -- region 2
  refine fx_val (v := .int .i64 0) fr rfl rfl (by first | decide | simp) (x_move rfl (fr.ev rfl)) ?_
  clear fr a; intro a fr
  refine fx_val (v := .bool false) fr rfl rfl (by first | decide | simp) (x_neq rfl (fr.ev rfl) rfl rfl) ?_
  clear fr a; intro a fr
  refine fx_val (v := .bool false) fr rfl rfl (by first | decide | simp) (x_move rfl (fr.ev rfl)) ?_
  clear fr a; intro a fr
  refine fx_val (v := .slice A bs.length cap) fr (fr.want rfl rfl rfl) rfl (by first | decide | simp) (x_move rfl (fr.ev rfl)) ?_
  clear fr a; intro a fr
  refine fx_val (v := .int .i64 ((bs.length : Nat) : Int)) fr (fr.want rfl rfl rfl) rfl (by first | decide | simp) (x_len Try.underlying22 rfl (fr.ev rfl)) ?_
  clear fr a; intro a fr
  refine fx_val (v := .bool true) fr (fr.want rfl rfl rfl) rfl (by first | decide | simp) (x_gtr rfl (fr.ev rfl) rfl (decide_eq_true h128)) ?_
  clear fr a; intro a fr
  refine fx_val (v := .bool true) fr rfl rfl (by first | decide | simp) (x_pick_f rfl (fr.ev rfl) (fr.ev rfl)) ?_
  clear fr a; intro a fr
  refine wpList_nil ?_
  refine fx_next ?_
  refine fx_cond_t fr rfl ?_
  refine wp_seq ?_
  refine wp_region_lit ?_  -- region 3
  refine fx_val (v := .agg (#[.slice none 0 0, .slice none 0 0])) fr rfl rfl (by first | decide | simp) (x_build (cells := #[.slice none 0 0, .slice none 0 0]) rfl (by kernel_rfl)) ?_
  clear fr a; intro a fr
  refine fx_val (v := .pointer none) fr rfl rfl (by first | decide | simp) (x_assign rfl rfl) ?_
  clear fr a; intro a fr
  refine fx_storeS sz28 rfl rfl rfl (fr.ev rfl) (fr.ev rfl) (by simp [Value.oneCell']) B4 rfl rfl fun w15 hO16 hBq => ?_
  replace hV := hV.only hO16 (Apart.ne1 ap_A_b1)
  replace hI9 := hI9.only hO16 (by first | exact ne_bi6_b1 | exact ne_b1_bi6.symm | (show ¬ bi6 = b1; omega)) (by first | exact ne_ig7_b1 | exact ne_b1_ig7.symm | (show ¬ ig7 = b1; omega))
  replace hF := hF.loc hO16 (.inr g_b1)
  replace B4 := hBq
  clear hBq
  refine fx_val (v := .bool false) fr rfl rfl (by first | decide | simp) (x_assign rfl rfl) ?_
  clear fr a; intro a fr
  refine wpList_nil ?_
  refine fx_next ?_
  refine wp_ret ?_
  refine fx_rt ?_
  refine fx_ret fr [.tmp 2, .cell 3 28, .tmp 4] [.pointer none, .agg (#[.slice none 0 0, .slice none 0 0]), .bool false] rfl ⟨rfl, ⟨_, rfl, x_loadV ag28 rfl B4.range⟩, rfl, trivial⟩ rfl ?_
  exact ⟨_, rfl, rfl, hF⟩
set_option maxRecDepth 100000 in
set_option maxHeartbeats 4000000 in
theorem made_3 {w : World} {A : Option Addr} {cap : Nat} {bs : List UInt8} (hV : View byE w A cap bs) (hok : okSize (bs.length : Int) = false) : Calls Try.prog 9 #[.slice A bs.length cap] w (Ret fun v w' => v = .tuple #[.pointer none, .agg #[.slice none 0 0, .slice none 0 0], .bool false] ∧ New w w') := by
  have hF := Only.refl (fun _ => False) w
  refine fx_enter Try.func9 rfl (N := (36, [])) (T := [(0, .slice A bs.length cap)]) rfl (show 1 ≤ 36 by decide) ⟨rfl, trivial⟩ fun a fr => ?_
  refine wp_seq ?_
  refine wp_region_lit ?_  -- region 0
  refine fx_val (v := .pointer none) fr rfl rfl (by first | decide | simp) (x_assign rfl rfl) ?_
  clear fr a; intro a fr
  refine fx_new fr rfl rfl (by first | decide | simp) (x_alloc (z := .agg (#[.slice none 0 0, .slice none 0 0])) (cs := #[.slice none 0 0, .slice none 0 0]) rfl (by kernel_rfl) rfl) ?_
  clear fr a
  intro b1 w2 hN3 B4 hb5 a fr
  have ap_A_b1 : Apart A b1 := hV.apart hb5
  have g_b1 := Nat.le_trans hF.size hb5
  replace hV := hV.new hN3
  replace hF := hF.trNew hN3
  refine fx_val (v := .bool false) fr rfl rfl (by first | decide | simp) (x_assign rfl rfl) ?_
  clear fr a; intro a fr
  refine wpList_nil ?_
  refine fx_next ?_
  refine wp_seq ?_
  refine wp_region_lit ?_  -- region 1
  refine fx_val (v := .slice A bs.length cap) fr rfl rfl (by first | decide | simp) (x_move rfl (fr.ev rfl)) ?_
  clear fr a; intro a fr
  refine fx_call fr rfl rfl (by first | decide | simp) (x_call (vs := [.slice A bs.length cap]) rfl rfl ⟨(fr.ev rfl), trivial⟩ Try.func25 nm25 rfl) (imgof_no hok _) ?_
  clear fr a
  rintro v w9 ⟨rfl, hw9⟩ a fr
  obtain rfl := hw9.symm
  refine fx_val (v := .tuple #[.pointer none, .int .i64 2]) fr rfl rfl (by first | decide | simp) (x_move rfl (fr.ev rfl)) ?_
  clear fr a; intro a fr
  refine fx_val (v := .pointer none) fr rfl rfl (by first | decide | simp) (x_extract rfl (fr.ev rfl) rfl) ?_
  clear fr a; intro a fr
  refine fx_val (v := .int .i64 2) fr rfl rfl (by first | decide | simp) (x_extract rfl (fr.ev rfl) rfl) ?_
  clear fr a; intro a fr
  refine fx_val (v := .pointer none) fr rfl rfl (by first | decide | simp) (x_assign rfl (fr.ev rfl)) ?_
  clear fr a; intro a fr
  refine fx_val (v := .int .i64 2) fr rfl rfl (by first | decide | simp) (x_assign rfl (fr.ev rfl)) ?_
  clear fr a; intro a fr
  refine wpList_nil ?_
  refine fx_next ?_
  refine wp_seq ?_
  refine wp_seq ?_
  refine wp_region_lit ?_  -- region 2
  refine fx_val (v := .int .i64 2) fr rfl rfl (by first | decide | simp) (x_move rfl (fr.ev rfl)) ?_
  clear fr a; intro a fr
  refine fx_val (v := .bool true) fr rfl rfl (by first | decide | simp) (x_neq rfl (fr.ev rfl) rfl rfl) ?_
  clear fr a; intro a fr
  refine fx_val (v := .bool true) fr rfl rfl (by first | decide | simp) (x_move rfl (fr.ev rfl)) ?_
  clear fr a; intro a fr
  refine fx_skip fr (fr.unwant rfl rfl rfl (by decide)) rfl (by first | decide | simp) ?_
  clear fr a; intro a fr
  refine fx_skip fr (fr.unwant rfl rfl rfl (by decide)) rfl (by first | decide | simp) ?_
  clear fr a; intro a fr
  refine fx_skip fr (fr.unwant rfl rfl rfl (by decide)) rfl (by first | decide | simp) ?_
  clear fr a; intro a fr
  refine fx_val (v := .bool true) fr rfl rfl (by first | decide | simp) (x_pick_t rfl (fr.ev rfl) rfl) ?_
  clear fr a; intro a fr
  refine wpList_nil ?_
  refine fx_next ?_
  refine fx_cond_t fr rfl ?_
  refine wp_seq ?_
  refine wp_region_lit ?_  -- region 3
  refine fx_val (v := .agg (#[.slice none 0 0, .slice none 0 0])) fr rfl rfl (by first | decide | simp) (x_build (cells := #[.slice none 0 0, .slice none 0 0]) rfl (by kernel_rfl)) ?_
  clear fr a; intro a fr
  refine fx_val (v := .pointer none) fr rfl rfl (by first | decide | simp) (x_assign rfl rfl) ?_
  clear fr a; intro a fr
  refine fx_storeS sz28 rfl rfl rfl (fr.ev rfl) (fr.ev rfl) (by simp [Value.oneCell']) B4 rfl rfl fun w8 hO9 hBq => ?_
  replace hV := hV.only hO9 (Apart.ne1 ap_A_b1)
  replace hF := hF.loc hO9 (.inr g_b1)
  replace B4 := hBq
  clear hBq
  refine fx_val (v := .bool false) fr rfl rfl (by first | decide | simp) (x_assign rfl rfl) ?_
  clear fr a; intro a fr
  refine wpList_nil ?_
  refine fx_next ?_
  refine wp_ret ?_
  refine fx_rt ?_
  refine fx_ret fr [.tmp 2, .cell 3 28, .tmp 4] [.pointer none, .agg (#[.slice none 0 0, .slice none 0 0]), .bool false] rfl ⟨rfl, ⟨_, rfl, x_loadV ag28 rfl B4.range⟩, rfl, trivial⟩ rfl ?_
  exact ⟨_, rfl, rfl, hF⟩
theorem made_yes {w : World} {A : Option Addr} {cap : Nat} {bs : List UInt8} (hV : View byE w A cap bs) (hs : sizeB bs = true) : Calls Try.prog 9 #[.slice A bs.length cap] w (Ret fun v w' => ∃ b Fp A1 c1 B1 cb1 FR, v = .tuple #[.pointer (some ⟨b, 0, none⟩), .agg #[.slice A1 bs.length c1, .slice B1 (bs.length / 16) cb1], .bool true] ∧ HomeAt w' Fp b (home0 bs) ∧ RefH w' FR A1 c1 B1 cb1 (home0 bs) ∧ (∀ g, Fp g → w.heap.size ≤ g) ∧ (∀ g, FR g → w.heap.size ≤ g) ∧ (∀ k, Fp k → FR k → False) ∧ New w w') := by
  simp only [sizeB, Bool.and_eq_true, decide_eq_true_eq] at hs
  exact made_1 hV hs.1 (by omega)
theorem made_no {w : World} {A : Option Addr} {cap : Nat} {bs : List UInt8} (hV : View byE w A cap bs) (hs : sizeB bs = false) : Calls Try.prog 9 #[.slice A bs.length cap] w (Ret fun v w' => v = .tuple #[.pointer none, .agg #[.slice none 0 0, .slice none 0 0], .bool false] ∧ New w w') := by
  cases hok : okSize (bs.length : Int) with
  | false => exact made_3 hV hok
  | true =>
    refine made_2 hV hok ?_
    simp only [sizeB, hok, Bool.true_and, decide_eq_false_iff_not] at hs
    omega
theorem msg_byte (m : Msg) (i : Nat) (h : i < 16) : (msgE.cells m)[4 + i]? = some (.int .u8 (m.bs.1.getD i 0)) := by
  show (Value.int .i64 m.kind :: .int .i64 m.src :: .int .i64 m.dst :: .int .u32 m.line :: m.bs.1.map (Value.int .u8))[4 + i]? = _
  have hb := m.bs.2.1
  rw [show 4 + i = i + 1 + 1 + 1 + 1 by omega]
  simp only [List.getElem?_cons_succ, List.getElem?_map]
  simp [List.getD, hb, h]
set_option maxRecDepth 100000 in
set_option maxHeartbeats 4000000 in
theorem other_no {w : World} {A : Option Addr} {cap : Nat} {bs : List UInt8} (hV : View byE w A cap bs) {C : Option Addr} {cc : Nat} {l : List Msg} (hL : View msgE w C cc l) (k : Nat) (hk : k < 4294967296) (hs : sizeB bs = false) : Calls Try.prog 3 #[.slice A bs.length cap, .slice C l.length cc, .int .u32 ((k : Nat) : Int)] w (Ret fun v w' => v = .bool true ∧ New w w') := by
  have hVl := hV.len
  have hLl := hL.len
  unfold maxLen at hVl hLl
  have hF := Only.refl (fun _ => False) w
  refine fx_enter Try.func3 rfl (N := (120, [])) (T := [(0, .slice A bs.length cap), (1, .slice C l.length cc), (2, .int .u32 ((k : Nat) : Int))]) rfl (show 3 ≤ 120 by decide) ⟨rfl, rfl, rfl, trivial⟩ fun a fr => ?_
  refine wp_seq ?_
  refine wp_region_lit ?_  -- region 0
  refine fx_val (v := .bool false) fr rfl rfl (by first | decide | simp) (x_assign rfl rfl) ?_
  clear fr a; intro a fr
  refine wpList_nil ?_
  refine fx_next ?_
  refine wp_seq ?_
  refine wp_region_lit ?_  -- region 1
  refine fx_val (v := .slice A bs.length cap) fr rfl rfl (by first | decide | simp) (x_move rfl (fr.ev rfl)) ?_
  clear fr a; intro a fr
  refine fx_call fr rfl rfl (by first | decide | simp) (x_call (vs := [.slice A bs.length cap]) rfl rfl ⟨(fr.ev rfl), trivial⟩ Try.func9 nm9 rfl) (made_no hV hs) ?_
  clear fr a
  rintro v w1 ⟨rfl, hN2⟩ a fr
  replace hV := hV.new hN2
  replace hL := hL.new hN2
  replace hF := hF.trNew hN2
  refine fx_val (v := .tuple #[.pointer none, .agg (#[.slice none 0 0, .slice none 0 0]), .bool false]) fr rfl rfl (by first | decide | simp) (x_move rfl (fr.ev rfl)) ?_
  clear fr a; intro a fr
  refine fx_val (v := .pointer none) fr rfl rfl (by first | decide | simp) (x_extract rfl (fr.ev rfl) rfl) ?_
  clear fr a; intro a fr
  refine fx_val (v := .agg (#[.slice none 0 0, .slice none 0 0])) fr rfl rfl (by first | decide | simp) (x_extract rfl (fr.ev rfl) rfl) ?_
  clear fr a; intro a fr
  refine fx_val (v := .bool false) fr rfl rfl (by first | decide | simp) (x_extract rfl (fr.ev rfl) rfl) ?_
  clear fr a; intro a fr
  refine fx_new fr rfl rfl (by first | decide | simp) (x_alloc (z := .agg (#[.slice none 0 0, .slice none 0 0])) (cs := #[.slice none 0 0, .slice none 0 0]) rfl (by kernel_rfl) rfl) ?_
  clear fr a
  intro b3 w4 hN5 B6 hb7 a fr
  have ap_A_b3 : Apart A b3 := hV.apart hb7
  have ap_C_b3 : Apart C b3 := hL.apart hb7
  have g_b3 := Nat.le_trans hF.size hb7
  replace hV := hV.new hN5
  replace hL := hL.new hN5
  replace hF := hF.trNew hN5
  refine fx_val (v := .pointer none) fr rfl rfl (by first | decide | simp) (x_assign rfl (fr.ev rfl)) ?_
  clear fr a; intro a fr
  refine fx_storeS sz28 rfl rfl rfl (fr.ev rfl) (fr.ev rfl) (by simp [Value.oneCell']) B6 rfl rfl fun w8 hO9 hBq => ?_
  replace hV := hV.only hO9 (Apart.ne1 ap_A_b3)
  replace hL := hL.only hO9 (Apart.ne1 ap_C_b3)
  replace hF := hF.loc hO9 (.inr g_b3)
  replace B6 := hBq
  clear hBq
  refine fx_val (v := .bool false) fr rfl rfl (by first | decide | simp) (x_assign rfl (fr.ev rfl)) ?_
  clear fr a; intro a fr
  refine wpList_nil ?_
  refine fx_next ?_
  refine wp_seq ?_
  refine wp_seq ?_
  refine wp_region_lit ?_  -- region 2
  refine fx_val (v := .bool false) fr rfl rfl (by first | decide | simp) (x_move rfl (fr.ev rfl)) ?_
  clear fr a; intro a fr
  refine fx_val (v := .bool true) fr rfl rfl (by first | decide | simp) (x_not rfl (fr.ev rfl) rfl) ?_
  clear fr a; intro a fr
  refine fx_val (v := .bool true) fr rfl rfl (by first | decide | simp) (x_move rfl (fr.ev rfl)) ?_
  clear fr a; intro a fr
  refine fx_skip fr (fr.unwant rfl rfl rfl (by decide)) rfl (by first | decide | simp) ?_
  clear fr a; intro a fr
  refine fx_skip fr (fr.unwant rfl rfl rfl (by decide)) rfl (by first | decide | simp) ?_
  clear fr a; intro a fr
  refine fx_skip fr (fr.unwant rfl rfl rfl (by decide)) rfl (by first | decide | simp) ?_
  clear fr a; intro a fr
  refine fx_val (v := .bool true) fr rfl rfl (by first | decide | simp) (x_pick_t rfl (fr.ev rfl) rfl) ?_
  clear fr a; intro a fr
  refine fx_val (v := .bool true) fr rfl rfl (by first | decide | simp) (x_move rfl (fr.ev rfl)) ?_
  clear fr a; intro a fr
  refine fx_skip fr (fr.unwant rfl rfl rfl (by decide)) rfl (by first | decide | simp) ?_
  clear fr a; intro a fr
  refine fx_skip fr (fr.unwant rfl rfl rfl (by decide)) rfl (by first | decide | simp) ?_
  clear fr a; intro a fr
  refine fx_skip fr (fr.unwant rfl rfl rfl (by decide)) rfl (by first | decide | simp) ?_
  clear fr a; intro a fr
  refine fx_skip fr (fr.unwant rfl rfl rfl (by decide)) rfl (by first | decide | simp) ?_
  clear fr a; intro a fr
  refine fx_skip fr (fr.unwant rfl rfl rfl (by decide)) rfl (by first | decide | simp) ?_
  clear fr a; intro a fr
  refine fx_val (v := .bool true) fr rfl rfl (by first | decide | simp) (x_pick_t rfl (fr.ev rfl) rfl) ?_
  clear fr a; intro a fr
  refine wpList_nil ?_
  refine fx_next ?_
  refine fx_cond_t fr rfl ?_
  refine wp_seq ?_
  refine wp_region_lit ?_  -- region 3
  refine fx_call fr rfl rfl (by first | decide | simp) (x_call (vs := []) rfl rfl trivial Try.func11 nm11 rfl) (known_c _) ?_
  clear fr a
  rintro v w10 ⟨rfl, hN11⟩ a fr
  replace hV := hV.new hN11
  replace hL := hL.new hN11
  replace B6 := B6.new hN11
  replace hF := hF.trNew hN11
  refine fx_val (v := .bool true) fr rfl rfl (by first | decide | simp) (x_assign rfl (fr.ev rfl)) ?_
  clear fr a; intro a fr
  refine wpList_nil ?_
  refine fx_next ?_
  refine wp_ret ?_
  refine fx_rt ?_
  refine fx_ret fr [.tmp 6] [.bool true] rfl ⟨rfl, trivial⟩ rfl ?_
  exact ⟨_, rfl, rfl, hF⟩
set_option maxRecDepth 100000 in
set_option maxHeartbeats 4000000 in
theorem other_yes {w : World} {A : Option Addr} {cap : Nat} {bs : List UInt8} (hV : View byE w A cap bs) {C : Option Addr} {cc : Nat} {l : List Msg} (hL : View msgE w C cc l) (k : Nat) (hk : k < 4294967296) (hs : sizeB bs = true) : Calls Try.prog 3 #[.slice A bs.length cap, .slice C l.length cc, .int .u32 ((k : Nat) : Int)] w (Ret fun v w' => v = .bool true ∧ New w w') := by
  have hVl := hV.len
  have hLl := hL.len
  unfold maxLen at hVl hLl
  have h0l : (home0 bs).E.length = bs.length / 16 := by simp [home0]
  have hln : 0 ≤ ((k : Nat) : Int) ∧ ((k : Nat) : Int) < 4294967296 := by omega
  have hF := Only.refl (fun _ => False) w
  refine fx_enter Try.func3 rfl (N := (120, [])) (T := [(0, .slice A bs.length cap), (1, .slice C l.length cc), (2, .int .u32 ((k : Nat) : Int))]) rfl (show 3 ≤ 120 by decide) ⟨rfl, rfl, rfl, trivial⟩ fun a fr => ?_
  refine wp_seq ?_
  refine wp_region_lit ?_  -- region 0
  refine fx_val (v := .bool false) fr rfl rfl (by first | decide | simp) (x_assign rfl rfl) ?_
  clear fr a; intro a fr
  refine wpList_nil ?_
  refine fx_next ?_
  refine wp_seq ?_
  refine wp_region_lit ?_  -- region 1
  refine fx_val (v := .slice A bs.length cap) fr rfl rfl (by first | decide | simp) (x_move rfl (fr.ev rfl)) ?_
  clear fr a; intro a fr
  refine fx_call fr rfl rfl (by first | decide | simp) (x_call (vs := [.slice A bs.length cap]) rfl rfl ⟨(fr.ev rfl), trivial⟩ Try.func9 nm9 rfl) (made_yes hV hs) ?_
  clear fr a
  rintro v w13 ⟨hb1, Fp2, A3, cap4, B5, cb6, FpR7, rfl, H8, R9, hf10, hr11, hd12, hN14⟩ a fr
  have ap2_A_Fp2 : ∀ k, inA A k → Fp2 k → False := symP (new_apart2P hf10 fun _ hg => hV.lt hg)
  have ap2_C_Fp2 : ∀ k, inA C k → Fp2 k → False := symP (new_apart2P hf10 fun _ hg => hL.lt hg)
  have gA_Fp2 := gA_newP hF hf10
  have gN_Fp2 := fun g (hg : Fp2 g) => Nat.le_trans hF.size (hf10 g hg)
  have ap2_A_FpR7 : ∀ k, inA A k → FpR7 k → False := symP (new_apart2P hr11 fun _ hg => hV.lt hg)
  have ap2_C_FpR7 : ∀ k, inA C k → FpR7 k → False := symP (new_apart2P hr11 fun _ hg => hL.lt hg)
  have gA_FpR7 := gA_newP hF hr11
  have gN_FpR7 := fun g (hg : FpR7 g) => Nat.le_trans hF.size (hr11 g hg)
  have ap2_Fp2_FpR7 := hd12
  replace hV := hV.new hN14
  replace hL := hL.new hN14
  replace hF := hF.trNew hN14
  refine fx_val (v := .tuple #[.pointer (some ⟨hb1, 0, none⟩), .agg (#[.slice A3 bs.length cap4, .slice B5 (bs.length / 16) cb6]), .bool true]) fr rfl rfl (by first | decide | simp) (x_move rfl (fr.ev rfl)) ?_
  clear fr a; intro a fr
  refine fx_val (v := .pointer (some ⟨hb1, 0, none⟩)) fr rfl rfl (by first | decide | simp) (x_extract rfl (fr.ev rfl) rfl) ?_
  clear fr a; intro a fr
  refine fx_val (v := .agg (#[.slice A3 bs.length cap4, .slice B5 (bs.length / 16) cb6])) fr rfl rfl (by first | decide | simp) (x_extract rfl (fr.ev rfl) rfl) ?_
  clear fr a; intro a fr
  refine fx_val (v := .bool true) fr rfl rfl (by first | decide | simp) (x_extract rfl (fr.ev rfl) rfl) ?_
  clear fr a; intro a fr
  refine fx_new fr rfl rfl (by first | decide | simp) (x_alloc (z := .agg (#[.slice none 0 0, .slice none 0 0])) (cs := #[.slice none 0 0, .slice none 0 0]) rfl (by kernel_rfl) rfl) ?_
  clear fr a
  intro b15 w16 hN17 B18 hb19 a fr
  have ap_A_b15 : Apart A b15 := hV.apart hb19
  have ap_C_b15 : Apart C b15 := hL.apart hb19
  have ap_Fp2_b15 : ¬ Fp2 b15 := H8.apart hb19
  have ap_FpR7_b15 : ¬ FpR7 b15 := R9.apart hb19
  have g_b15 := Nat.le_trans hF.size hb19
  replace hV := hV.new hN17
  replace hL := hL.new hN17
  replace H8 := H8.new hN17
  replace R9 := R9.new hN17
  replace hF := hF.trNew hN17
  refine fx_val (v := .pointer (some ⟨hb1, 0, none⟩)) fr rfl rfl (by first | decide | simp) (x_assign rfl (fr.ev rfl)) ?_
  clear fr a; intro a fr
  refine fx_storeS sz28 rfl rfl rfl (fr.ev rfl) (fr.ev rfl) (by simp [Value.oneCell']) B18 rfl rfl fun w20 hO21 hBq => ?_
  replace hV := hV.only hO21 (Apart.ne1 ap_A_b15)
  replace hL := hL.only hO21 (Apart.ne1 ap_C_b15)
  replace H8 := H8.only hO21 (ne1P ap_Fp2_b15)
  replace R9 := R9.only hO21 (ne1P ap_FpR7_b15)
  replace hF := hF.loc hO21 (.inr g_b15)
  replace B18 := hBq
  clear hBq
  refine fx_val (v := .bool true) fr rfl rfl (by first | decide | simp) (x_assign rfl (fr.ev rfl)) ?_
  clear fr a; intro a fr
  refine wpList_nil ?_
  refine fx_next ?_
  refine wp_seq ?_
  refine wp_seq ?_
  refine wp_region_lit ?_  -- region 2
  refine fx_val (v := .bool true) fr rfl rfl (by first | decide | simp) (x_move rfl (fr.ev rfl)) ?_
  clear fr a; intro a fr
  refine fx_val (v := .bool false) fr rfl rfl (by first | decide | simp) (x_not rfl (fr.ev rfl) rfl) ?_
  clear fr a; intro a fr
  refine fx_val (v := .bool false) fr rfl rfl (by first | decide | simp) (x_move rfl (fr.ev rfl)) ?_
  clear fr a; intro a fr
  refine fx_val (v := .slice C l.length cc) fr (fr.want rfl rfl rfl) rfl (by first | decide | simp) (x_move rfl (fr.ev rfl)) ?_
  clear fr a; intro a fr
  refine fx_val (v := .int .i64 ((l.length : Nat) : Int)) fr (fr.want rfl rfl rfl) rfl (by first | decide | simp) (x_len Try.underlying23 rfl (fr.ev rfl)) ?_
  clear fr a; intro a fr
  refine fx_val (v := .bool (decide (40 < ((l.length : Nat) : Int)))) fr (fr.want rfl rfl rfl) rfl (by first | decide | simp) (x_gtr rfl (fr.ev rfl) rfl rfl) ?_
  clear fr a; intro a fr
  refine fx_val (v := .bool (decide (40 < ((l.length : Nat) : Int)))) fr rfl rfl (by first | decide | simp) (x_pick_f rfl (fr.ev rfl) (fr.ev rfl)) ?_
  clear fr a; intro a fr
  refine fx_val (v := .bool (decide (40 < ((l.length : Nat) : Int)))) fr rfl rfl (by first | decide | simp) (x_move rfl (fr.ev rfl)) ?_
  clear fr a; intro a fr
  refine fx_may (g := !(decide (40 < ((l.length : Nat) : Int)))) (v := .int .u32 ((k : Nat) : Int)) fr rfl rfl rfl (by simp) rfl (by first | decide | simp) (fun hg => x_move rfl (fr.ev rfl)) ?_
  clear fr a; intro a fr
  refine fx_may (g := !(decide (40 < ((l.length : Nat) : Int)))) (v := .int .i64 ((k : Nat) : Int)) fr rfl rfl rfl (by simp) rfl (by first | decide | simp) (fun hg => x_convert Try.underlying24 Try.underlying2 rfl ((fr.ev rfl).trans (onlyIf_t hg)) (i64w (r := ((k : Nat) : Int)) rfl (by omega))) ?_
  clear fr a; intro a fr
  refine fx_may (g := !(decide (40 < ((l.length : Nat) : Int)))) (v := .pointer (some ⟨hb1, 0, none⟩)) fr rfl rfl rfl (by simp) rfl (by first | decide | simp) (fun hg => x_move rfl (fr.ev rfl)) ?_
  clear fr a; intro a fr
  rcases Bool.eq_false_or_eq_true (decide (40 < ((l.length : Nat) : Int))) with hc22 | hc22
  · skip
    rw [hc22] at fr
    have hc22 := of_decide_eq_true hc22
    refine fx_skip fr (fr.unwant rfl rfl rfl (by decide)) rfl (by first | decide | simp) ?_
    clear fr a; intro a fr
    refine fx_skip fr (fr.unwant rfl rfl rfl (by decide)) rfl (by first | decide | simp) ?_
    clear fr a; intro a fr
    refine fx_val (v := .bool true) fr rfl rfl (by first | decide | simp) (x_pick_t rfl (fr.ev rfl) rfl) ?_
    clear fr a; intro a fr
    refine wpList_nil ?_
    refine fx_next ?_
    refine fx_cond_t fr rfl ?_
    refine wp_seq ?_
    refine wp_region_lit ?_  -- region 3
    refine fx_call fr rfl rfl (by first | decide | simp) (x_call (vs := []) rfl rfl trivial Try.func11 nm11 rfl) (known_c _) ?_
    clear fr a
    rintro v w23 ⟨rfl, hN24⟩ a fr
    replace hV := hV.new hN24
    replace hL := hL.new hN24
    replace H8 := H8.new hN24
    replace R9 := R9.new hN24
    replace B18 := B18.new hN24
    replace hF := hF.trNew hN24
    refine fx_val (v := .bool true) fr rfl rfl (by first | decide | simp) (x_assign rfl (fr.ev rfl)) ?_
    clear fr a; intro a fr
    refine wpList_nil ?_
    refine fx_next ?_
    refine wp_ret ?_
    refine fx_rt ?_
    refine fx_ret fr [.tmp 6] [.bool true] rfl ⟨rfl, trivial⟩ rfl ?_
    exact ⟨_, rfl, rfl, hF⟩
  · skip
    rw [hc22] at fr
    have hc22 := of_decide_eq_false hc22
    refine fx_call fr (fr.want rfl rfl rfl) rfl (by first | decide | simp) (x_call (vs := [.pointer (some ⟨hb1, 0, none⟩)]) rfl rfl ⟨((fr.ev rfl).trans (onlyIf_t rfl)), trivial⟩ Try.func10 nm10 rfl) (lines_h H8) ?_
    clear fr a
    rintro v w9 ⟨rfl, hw9⟩ a fr
    obtain rfl := hw9.symm
    refine fx_val (v := .bool (decide ((((home0 bs).E.length : Nat) : Int) ≤ ((k : Nat) : Int)))) fr (fr.want rfl rfl rfl) rfl (by first | decide | simp) (x_geq rfl ((fr.ev rfl).trans (onlyIf_t rfl)) (fr.ev rfl) rfl) ?_
    clear fr a; intro a fr
    refine fx_val (v := .bool (decide ((((home0 bs).E.length : Nat) : Int) ≤ ((k : Nat) : Int)))) fr rfl rfl (by first | decide | simp) (x_pick_f rfl (fr.ev rfl) (fr.ev rfl)) ?_
    clear fr a; intro a fr
    refine wpList_nil ?_
    refine fx_next ?_
    refine fx_cond fr rfl (fun hc27 => ?_) (fun hc27 => ?_)
    · skip
      have hc27 := of_decide_eq_true hc27
      refine wp_seq ?_
      refine wp_region_lit ?_  -- region 3
      refine fx_call fr rfl rfl (by first | decide | simp) (x_call (vs := []) rfl rfl trivial Try.func11 nm11 rfl) (known_c _) ?_
      clear fr a
      rintro v w28 ⟨rfl, hN29⟩ a fr
      replace hV := hV.new hN29
      replace hL := hL.new hN29
      replace H8 := H8.new hN29
      replace R9 := R9.new hN29
      replace B18 := B18.new hN29
      replace hF := hF.trNew hN29
      refine fx_val (v := .bool true) fr rfl rfl (by first | decide | simp) (x_assign rfl (fr.ev rfl)) ?_
      clear fr a; intro a fr
      refine wpList_nil ?_
      refine fx_next ?_
      refine wp_ret ?_
      refine fx_rt ?_
      refine fx_ret fr [.tmp 6] [.bool true] rfl ⟨rfl, trivial⟩ rfl ?_
      exact ⟨_, rfl, rfl, hF⟩
    · skip
      have hc27 := of_decide_eq_false hc27
      refine wp_skip ?_
      refine fx_next ?_
      refine wp_seq ?_
      refine wp_seq ?_
      refine wp_region_lit ?_  -- region 4
      refine fx_val (v := .int .i64 0) fr rfl rfl (by first | decide | simp) (x_assign rfl rfl) ?_
      clear fr a; intro a fr
      refine wpList_nil ?_
      refine fx_next ?_
      refine wp_block ?_
      refine fx_loop (fun nM a wL => ∃ i : Nat, ∃ hd : HD, ∃ FpX : Nat → Prop, nM = l.length - i ∧ Fr (120, []) [(0, .slice A bs.length cap), (1, .slice C l.length cc), (2, .int .u32 ((k : Nat) : Int)), (7, .pointer (some ⟨hb1, 0, none⟩)), (10, .int .i64 ((i : Nat) : Int))] a ∧ Only (fun _ => False) w wL ∧ View byE wL A cap bs ∧ View msgE wL C cc l ∧ HomeAt wL FpX hb1 hd ∧ i ≤ l.length ∧ HI i hd ∧ entOf hd.E ((k : Nat) : Int).toNat = ent0 ∧ lineB hd.bs ((k : Nat) : Int) = lineB bs ((k : Nat) : Int) ∧ hd.E.length = bs.length / 16 ∧ (∀ k, inA A k → FpX k → False) ∧ (∀ k, inA C k → FpX k → False) ∧ (∀ g, FpX g → (fun _ => False) g ∨ w.heap.size ≤ g)) (n0 := _) ⟨0, (home0 bs), Fp2, rfl, fr.sub ⟨rfl, rfl, rfl, rfl, rfl, trivial⟩, hF, hV, hL, H8, Nat.zero_le _, HI.home0 bs, entOf_rep _ _, rfl, (by simp [home0]), ap2_A_Fp2, ap2_C_Fp2, gA_Fp2⟩ ?_
      rintro n31 a w30 ⟨i, hd, FpX, rfl, fr, hF, hV, hL, HH, hi, hHI, hent, hlb, hEl, ap2_A_FpX, ap2_C_FpX, gA_FpX⟩
      refine wp_seq ?_
      refine wp_seq ?_
      refine wp_region_lit ?_  -- region 5
      refine fx_val (v := .int .i64 ((i : Nat) : Int)) fr rfl rfl (by first | decide | simp) (x_move rfl (fr.ev rfl)) ?_
      clear fr a; intro a fr
      refine fx_val (v := .slice C l.length cc) fr rfl rfl (by first | decide | simp) (x_move rfl (fr.ev rfl)) ?_
      clear fr a; intro a fr
      refine fx_val (v := .int .i64 ((l.length : Nat) : Int)) fr rfl rfl (by first | decide | simp) (x_len Try.underlying23 rfl (fr.ev rfl)) ?_
      clear fr a; intro a fr
      refine fx_val (v := .bool (decide (((i : Nat) : Int) < ((l.length : Nat) : Int)))) fr rfl rfl (by first | decide | simp) (x_lss rfl (fr.ev rfl) (fr.ev rfl) rfl) ?_
      clear fr a; intro a fr
      refine wpList_nil ?_
      refine fx_next ?_
      refine fx_cond fr rfl (fun hc32 => ?_) (fun hc32 => ?_)
      · skip
        have hc32 := of_decide_eq_true hc32
        refine wp_skip ?_
        refine fx_next ?_
        refine wp_seq ?_
        refine wp_block ?_
        refine wp_seq ?_
        refine wp_region_lit ?_  -- region 7
        refine fx_val (v := .slice C l.length cc) fr rfl rfl (by first | decide | simp) (x_move rfl (fr.ev rfl)) ?_
        clear fr a; intro a fr
        refine fx_val (v := .int .i64 ((i : Nat) : Int)) fr rfl rfl (by first | decide | simp) (x_move rfl (fr.ev rfl)) ?_
        clear fr a; intro a fr
        obtain ⟨g33, o34, hA35⟩ := (hL).some_ (by first | omega | decide)
        refine fx_val (v := .pointer (some ⟨g33, o34 + i * 20, none⟩)) fr rfl rfl (by first | decide | simp) (x_indexV Try.underlying23 sz36 rfl (fr.ev rfl) hA35 (fr.ev rfl) (by first | decide | omega) rfl) ?_
        clear fr a; intro a fr
        refine fx_val (v := .pointer (some ⟨g33, o34 + i * 20 + 3, none⟩)) fr rfl rfl (by first | decide | simp) (x_fieldAddr fo36_3 rfl (fr.ev rfl) rfl) ?_
        clear fr a; intro a fr
        refine fx_val (v := .int .u32 ((l.getD i msg0).line)) fr rfl rfl (by first | decide | simp) (x_load1 pl24 rfl (fr.ev rfl) (range_cell ((hL).elem hA35 i msg0 (by first | omega | decide)) 3 rfl rfl)) ?_
        clear fr a; intro a fr
        refine fx_val (v := .int .u32 ((k : Nat) : Int)) fr rfl rfl (by first | decide | simp) (x_move rfl (fr.ev rfl)) ?_
        clear fr a; intro a fr
        refine fx_val (v := .bool (decide ((l.getD i msg0).line ≠ ((k : Nat) : Int)))) fr rfl rfl (by first | decide | simp) (x_neq rfl (fr.ev rfl) (fr.ev rfl) rfl) ?_
        clear fr a; intro a fr
        refine wpList_nil ?_
        refine fx_next ?_
        refine fx_cond fr rfl (fun hc36 => ?_) (fun hc36 => ?_)
        · skip
          have hc36 := of_decide_eq_true hc36
          refine wp_region_lit ?_  -- region 8
          refine fx_val (v := .pointer (some ⟨hb1, 0, none⟩)) fr rfl rfl (by first | decide | simp) (x_move rfl (fr.ev rfl)) ?_
          clear fr a; intro a fr
          refine fx_val (v := .slice C l.length cc) fr rfl rfl (by first | decide | simp) (x_move rfl (fr.ev rfl)) ?_
          clear fr a; intro a fr
          refine fx_val (v := .int .i64 ((i : Nat) : Int)) fr rfl rfl (by first | decide | simp) (x_move rfl (fr.ev rfl)) ?_
          clear fr a; intro a fr
          refine fx_val (v := .pointer (some ⟨g33, o34 + i * 20, none⟩)) fr rfl rfl (by first | decide | simp) (x_indexV Try.underlying23 sz36 rfl (fr.ev rfl) hA35 (fr.ev rfl) (by first | decide | omega) rfl) ?_
          clear fr a; intro a fr
          refine fx_val (v := .agg (msgE.arr (l.getD i msg0))) fr rfl rfl (by first | decide | simp) (x_loadE (E := msgE) ag36 rfl rfl (fr.ev rfl) ((hL).elem hA35 i msg0 (by omega))) ?_
          clear fr a; intro a fr
          refine fx_call fr rfl rfl (by first | decide | simp) (x_call (vs := [.pointer (some ⟨hb1, 0, none⟩), .agg (msgE.arr (l.getD i msg0))]) rfl rfl ⟨(fr.ev rfl), (fr.ev rfl), trivial⟩ Try.func12 nm12 rfl) (take_c HH (l.getD i msg0) (hHI.ok (by omega))) ?_
          clear fr a
          rintro v w45 ⟨A37, ac38, Fp39, rfl, O40, hA41, H42, hs43, hi44, hN46⟩ a fr
          clear HH
          have ap2_Fp39_A : ∀ k, Fp39 k → inA A k → False := moved_apart2P hi44 (symP ap2_A_FpX) fun _ hg => hV.lt hg
          have ap2_A_A37 : Apart2 A A37 := (new_apart2 hA41 fun _ hg => hV.lt hg).symm
          have ap2_Fp39_C : ∀ k, Fp39 k → inA C k → False := moved_apart2P hi44 (symP ap2_C_FpX) fun _ hg => hL.lt hg
          have ap2_C_A37 : Apart2 C A37 := (new_apart2 hA41 fun _ hg => hL.lt hg).symm
          have ap2_Fp39_A37 : ∀ k, Fp39 k → inA A37 k → False := hs43
          have gA_Fp39 := gA_movedP hF hi44 gA_FpX
          have gA_A37 := gA_new hF hA41
          replace hV := hV.only hN46 (fun g h1 h2 => ap2_A_FpX g h1 h2)
          replace hL := hL.only hN46 (fun g h1 h2 => ap2_C_FpX g h1 h2)
          replace hF := hF.locP hN46 gA_FpX
          refine wpList_nil ?_
          refine fx_blk ?_
          refine fx_next ?_
          refine wp_region_lit ?_  -- region 6
          refine fx_val (v := .int .i64 ((i : Nat) : Int)) fr rfl rfl (by first | decide | simp) (x_move rfl (fr.ev rfl)) ?_
          clear fr a; intro a fr
          refine fx_val (v := .int .i64 ((i + 1 : Nat) : Int)) fr rfl rfl (by first | decide | simp) (x_add rfl (fr.ev rfl) rfl (i64w (r := ((i + 1 : Nat) : Int)) (by omega) (by omega))) ?_
          clear fr a; intro a fr
          refine fx_val (v := .int .i64 ((i + 1 : Nat) : Int)) fr rfl rfl (by first | decide | simp) (x_assign rfl (fr.ev rfl)) ?_
          clear fr a; intro a fr
          refine wpList_nil ?_
          refine fx_next ?_
          have hto := take_other hHI (m := (l.getD i msg0)) (k := ((k : Nat) : Int)) (by omega) (by show ((k : Nat) : Int).toNat < _; rw [hEl]; omega) hc36
          exact ⟨_, by omega, (i + 1), (takeH hd (l.getD i msg0)).1, Fp39, rfl, fr.sub ⟨rfl, rfl, rfl, rfl, rfl, trivial⟩, hF, hV, hL, H42, by omega, hHI.take (l.getD i msg0), hto.1.trans hent, hto.2.trans hlb, (take_len _ _).trans hEl, (symP ap2_Fp39_A), (symP ap2_Fp39_C), gA_Fp39⟩
        · skip
          have hc36 := of_decide_eq_false hc36
          refine wp_skip ?_
          refine fx_blk ?_
          refine fx_next ?_
          refine wp_region_lit ?_  -- region 6
          refine fx_val (v := .int .i64 ((i : Nat) : Int)) fr rfl rfl (by first | decide | simp) (x_move rfl (fr.ev rfl)) ?_
          clear fr a; intro a fr
          refine fx_val (v := .int .i64 ((i + 1 : Nat) : Int)) fr rfl rfl (by first | decide | simp) (x_add rfl (fr.ev rfl) rfl (i64w (r := ((i + 1 : Nat) : Int)) (by omega) (by omega))) ?_
          clear fr a; intro a fr
          refine fx_val (v := .int .i64 ((i + 1 : Nat) : Int)) fr rfl rfl (by first | decide | simp) (x_assign rfl (fr.ev rfl)) ?_
          clear fr a; intro a fr
          refine wpList_nil ?_
          refine fx_next ?_
          exact ⟨_, by omega, (i + 1), hd, FpX, rfl, fr.sub ⟨rfl, rfl, rfl, rfl, rfl, trivial⟩, hF, hV, hL, HH, by omega, hHI.mono (Nat.le_succ _), hent, hlb, hEl, ap2_A_FpX, ap2_C_FpX, gA_FpX⟩
      · skip
        have hc32 := of_decide_eq_false hc32
        refine wp_exit ?_
        refine fx_xt ?_
        refine fx_xt ?_
        refine fx_xx ?_
        refine fx_next ?_
        refine wp_seq ?_
        have hql0 : (entOf hd.E ((k : Nat) : Int).toNat).q.length ≤ 1000000 := by rw [hent]; decide
        refine wp_region_lit ?_  -- region 9
        refine fx_val (v := .pointer (some ⟨hb1, 0, none⟩)) fr rfl rfl (by first | decide | simp) (x_move rfl (fr.ev rfl)) ?_
        clear fr a; intro a fr
        refine fx_val (v := .int .u32 ((k : Nat) : Int)) fr rfl rfl (by first | decide | simp) (x_move rfl (fr.ev rfl)) ?_
        clear fr a; intro a fr
        refine fx_call fr rfl rfl (by first | decide | simp) (x_call (vs := [.pointer (some ⟨hb1, 0, none⟩), .int .u32 ((k : Nat) : Int)]) rfl rfl ⟨(fr.ev rfl), (fr.ev rfl), trivial⟩ Try.func13 nm13 rfl) (entry_h HH ((k : Nat) : Int) hln (by rw [hEl]; omega) hql0) ?_
        clear fr a
        rintro v w51 ⟨Q47, qc48, rfl, OQ49, hA50, hN52⟩ a fr
        have ap2_A_Q47 : Apart2 A Q47 := (new_apart2 hA50 fun _ hg => hV.lt hg).symm
        have ap2_C_Q47 : Apart2 C Q47 := (new_apart2 hA50 fun _ hg => hL.lt hg).symm
        have ap2_FpX_Q47 : ∀ k, FpX k → inA Q47 k → False := symP (new_apart2P hA50 fun _ hg => HH.lt hg)
        have gA_Q47 := gA_new hF hA50
        have gN_Q47 := fun g (hg : inA Q47 g) => Nat.le_trans hF.size (hA50 g hg)
        replace hV := hV.new hN52
        replace hL := hL.new hN52
        replace HH := HH.new hN52
        replace hF := hF.trNew hN52
        refine fx_val (v := .tuple #[.agg (entA (entOf hd.E ((k : Nat) : Int).toNat) (.slice Q47 ((entOf hd.E ((k : Nat) : Int).toNat).q.length) qc48)), .int .i64 0]) fr rfl rfl (by first | decide | simp) (x_move rfl (fr.ev rfl)) ?_
        clear fr a; intro a fr
        refine fx_val (v := .agg (entA (entOf hd.E ((k : Nat) : Int).toNat) (.slice Q47 ((entOf hd.E ((k : Nat) : Int).toNat).q.length) qc48))) fr rfl rfl (by first | decide | simp) (x_extract rfl (fr.ev rfl) rfl) ?_
        clear fr a; intro a fr
        refine fx_val (v := .int .i64 0) fr rfl rfl (by first | decide | simp) (x_extract rfl (fr.ev rfl) rfl) ?_
        clear fr a; intro a fr
        refine fx_new fr rfl rfl (by first | decide | simp) (x_alloc (z := .agg (#[.int .i64 0, .bool false, .bool false, .bool false, .bool false, .bool false, .int .i64 0, .int .i64 0, .int .i64 0, .bool false, .slice none 0 0])) (cs := #[.int .i64 0, .bool false, .bool false, .bool false, .bool false, .bool false, .int .i64 0, .int .i64 0, .int .i64 0, .bool false, .slice none 0 0]) rfl (by kernel_rfl) rfl) ?_
        clear fr a
        intro b53 w54 hN55 B56 hb57 a fr
        have ap_A_b53 : Apart A b53 := hV.apart hb57
        have ap_C_b53 : Apart C b53 := hL.apart hb57
        have ap_FpX_b53 : ¬ FpX b53 := HH.apart hb57
        have ap_Q47_b53 : Apart Q47 b53 := OQ49.apart hb57
        have g_b53 := Nat.le_trans hF.size hb57
        replace hV := hV.new hN55
        replace hL := hL.new hN55
        replace HH := HH.new hN55
        replace OQ49 := OQ49.new hN55
        replace hF := hF.trNew hN55
        refine fx_storeS sz42 rfl rfl rfl (fr.ev rfl) (fr.ev rfl) (ent_all _ _ _ _) B56 rfl rfl fun w58 hO59 hBq => ?_
        replace hV := hV.only hO59 (Apart.ne1 ap_A_b53)
        replace hL := hL.only hO59 (Apart.ne1 ap_C_b53)
        replace HH := HH.only hO59 (ne1P ap_FpX_b53)
        replace OQ49 := OQ49.only hO59 (Apart.ne1 ap_Q47_b53)
        replace hF := hF.loc hO59 (.inr g_b53)
        replace B56 := hBq
        clear hBq
        refine fx_val (v := .int .i64 0) fr rfl rfl (by first | decide | simp) (x_assign rfl (fr.ev rfl)) ?_
        clear fr a; intro a fr
        refine wpList_nil ?_
        refine fx_next ?_
        refine wp_seq ?_
        refine wp_region_lit ?_  -- region 10
        refine fx_val (v := .pointer (some ⟨hb1, 0, none⟩)) fr rfl rfl (by first | decide | simp) (x_move rfl (fr.ev rfl)) ?_
        clear fr a; intro a fr
        refine fx_val (v := .int .u32 ((k : Nat) : Int)) fr rfl rfl (by first | decide | simp) (x_move rfl (fr.ev rfl)) ?_
        clear fr a; intro a fr
        refine fx_val (v := .agg (msgE.arr (mkM 2 1 4 ((k : Nat) : Int) b16z (by first | decide | omega)))) fr rfl rfl (by first | decide | simp) (x_build (cells := msgE.arr (mkM 2 1 4 ((k : Nat) : Int) b16z (by first | decide | omega))) rfl (by simp only [List.map_toArray, List.map_cons, List.map_nil, show a.eval (.tmp 64) = .int .u32 ((k : Nat) : Int) from fr.ev rfl]; kernel_rfl)) ?_
        clear fr a; intro a fr
        refine fx_call fr rfl rfl (by first | decide | simp) (x_call (vs := [.pointer (some ⟨hb1, 0, none⟩), .agg (msgE.arr (mkM 2 1 4 ((k : Nat) : Int) b16z (by first | decide | omega)))]) rfl rfl ⟨(fr.ev rfl), (fr.ev rfl), trivial⟩ Try.func12 nm12 rfl) (take_c HH (mkM 2 1 4 ((k : Nat) : Int) b16z (by first | decide | omega)) (hHI.ok (by omega))) ?_
        clear fr a
        rintro v w68 ⟨A60, ac61, Fp62, rfl, O63, hA64, H65, hs66, hi67, hN69⟩ a fr
        clear HH
        have ap2_Fp62_A : ∀ k, Fp62 k → inA A k → False := moved_apart2P hi67 (symP ap2_A_FpX) fun _ hg => hV.lt hg
        have ap2_A_A60 : Apart2 A A60 := (new_apart2 hA64 fun _ hg => hV.lt hg).symm
        have ap2_Fp62_C : ∀ k, Fp62 k → inA C k → False := moved_apart2P hi67 (symP ap2_C_FpX) fun _ hg => hL.lt hg
        have ap2_C_A60 : Apart2 C A60 := (new_apart2 hA64 fun _ hg => hL.lt hg).symm
        have ap2_Fp62_Q47 : ∀ k, Fp62 k → inA Q47 k → False := moved_apart2P hi67 ap2_FpX_Q47 fun _ hg => OQ49.lt hg
        have ap2_Q47_A60 : Apart2 Q47 A60 := (new_apart2 hA64 fun _ hg => OQ49.lt hg).symm
        have ap_Fp62_b53 : ¬ Fp62 b53 := moved_apartP hi67 ap_FpX_b53 B56.lt
        have ap_A60_b53 : Apart A60 b53 := new_apart hA64 B56.lt
        have ap2_Fp62_A60 : ∀ k, Fp62 k → inA A60 k → False := hs66
        have gA_Fp62 := gA_movedP hF hi67 gA_FpX
        have gA_A60 := gA_new hF hA64
        replace hV := hV.only hN69 (fun g h1 h2 => ap2_A_FpX g h1 h2)
        replace hL := hL.only hN69 (fun g h1 h2 => ap2_C_FpX g h1 h2)
        replace OQ49 := OQ49.only hN69 (fun g h1 h2 => (symP ap2_FpX_Q47) g h1 h2)
        replace B56 := B56.only hN69 ap_FpX_b53
        replace hF := hF.locP hN69 gA_FpX
        obtain ⟨hk1, hk2⟩ := take_fresh (h := hd) (m := (mkM 2 1 4 ((k : Nat) : Int) b16z (by first | decide | omega))) rfl rfl rfl rfl (by show ((k : Nat) : Int).toNat < _; rw [hEl]; omega) hent
        change (takeH hd (mkM 2 1 4 ((k : Nat) : Int) b16z (by first | decide | omega))).2.1 = [sendM (mkM 2 1 4 ((k : Nat) : Int) b16z (by first | decide | omega)) 10 1 (lineB hd.bs ((k : Nat) : Int))] at hk1
        rw [hk1] at O63
        rw [hk1, hk2] at fr
        have hL1 : ([sendM (mkM 2 1 4 ((k : Nat) : Int) b16z (by first | decide | omega)) 10 1 (lineB hd.bs ((k : Nat) : Int))]).length = 1 := rfl
        refine fx_val (v := .tuple #[.slice A60 1 ac61, .int .i64 0]) fr rfl rfl (by first | decide | simp) (x_move rfl (fr.ev rfl)) ?_
        clear fr a; intro a fr
        refine fx_val (v := .slice A60 1 ac61) fr rfl rfl (by first | decide | simp) (x_extract rfl (fr.ev rfl) rfl) ?_
        clear fr a; intro a fr
        refine fx_val (v := .int .i64 0) fr rfl rfl (by first | decide | simp) (x_extract rfl (fr.ev rfl) rfl) ?_
        clear fr a; intro a fr
        refine fx_val (v := .slice A60 1 ac61) fr rfl rfl (by first | decide | simp) (x_assign rfl (fr.ev rfl)) ?_
        clear fr a; intro a fr
        refine fx_val (v := .int .i64 0) fr rfl rfl (by first | decide | simp) (x_assign rfl (fr.ev rfl)) ?_
        clear fr a; intro a fr
        refine wpList_nil ?_
        refine fx_next ?_
        refine wp_seq ?_
        refine wp_seq ?_
        refine wp_region_lit ?_  -- region 11
        refine fx_val (v := .int .i64 0) fr rfl rfl (by first | decide | simp) (x_move rfl (fr.ev rfl)) ?_
        clear fr a; intro a fr
        refine fx_val (v := .bool false) fr rfl rfl (by first | decide | simp) (x_neq rfl (fr.ev rfl) rfl rfl) ?_
        clear fr a; intro a fr
        refine fx_val (v := .bool false) fr rfl rfl (by first | decide | simp) (x_move rfl (fr.ev rfl)) ?_
        clear fr a; intro a fr
        refine fx_val (v := .int .i64 0) fr (fr.want rfl rfl rfl) rfl (by first | decide | simp) (x_move rfl (fr.ev rfl)) ?_
        clear fr a; intro a fr
        refine fx_val (v := .bool false) fr (fr.want rfl rfl rfl) rfl (by first | decide | simp) (x_neq rfl (fr.ev rfl) rfl rfl) ?_
        clear fr a; intro a fr
        refine fx_val (v := .bool false) fr rfl rfl (by first | decide | simp) (x_pick_f rfl (fr.ev rfl) (fr.ev rfl)) ?_
        clear fr a; intro a fr
        refine fx_val (v := .bool false) fr rfl rfl (by first | decide | simp) (x_move rfl (fr.ev rfl)) ?_
        clear fr a; intro a fr
        refine fx_val (v := .agg (entA (entOf hd.E ((k : Nat) : Int).toNat) (.slice Q47 ((entOf hd.E ((k : Nat) : Int).toNat).q.length) qc48))) fr (fr.want rfl rfl rfl) rfl (by first | decide | simp) (x_loadS ag42 rfl (fr.ev rfl) rfl B56.range) ?_
        clear fr a; intro a fr
        refine fx_val (v := .agg (#[.int .i64 (-1), .bool false, .bool false, .bool false, .bool false, .bool false, .int .i64 0, .int .i64 0, .int .i64 0, .bool false, .slice none 0 0])) fr (fr.want rfl rfl rfl) rfl (by first | decide | simp) (x_build (cells := #[.int .i64 (-1), .bool false, .bool false, .bool false, .bool false, .bool false, .int .i64 0, .int .i64 0, .int .i64 0, .bool false, .slice none 0 0]) rfl (by kernel_rfl)) ?_
        clear fr a; intro a fr
        refine fx_call fr (fr.want rfl rfl rfl) rfl (by first | decide | simp) (x_call (vs := [.agg (entA (entOf hd.E ((k : Nat) : Int).toNat) (.slice Q47 ((entOf hd.E ((k : Nat) : Int).toNat).q.length) qc48)), .agg (#[.int .i64 (-1), .bool false, .bool false, .bool false, .bool false, .bool false, .int .i64 0, .int .i64 0, .int .i64 0, .bool false, .slice none 0 0])]) rfl rfl ⟨(fr.ev rfl), (fr.ev rfl), trivial⟩ Try.func14 nm14 rfl) (sament_c (d := (entOf hd.E ((k : Nat) : Int).toNat)) (e := ent0) (OQ49.view) (View.nil)) ?_
        clear fr a
        rintro v w70 ⟨rfl, hN71⟩ a fr
        replace hV := hV.new hN71
        replace hL := hL.new hN71
        replace OQ49 := OQ49.new hN71
        replace B56 := B56.new hN71
        replace H65 := H65.new hN71
        replace O63 := O63.new hN71
        replace hF := hF.trNew hN71
        rw [show decide ((entOf hd.E ((k : Nat) : Int).toNat) = ent0) = true from decide_eq_true hent] at fr
        refine fx_val (v := .bool false) fr (fr.want rfl rfl rfl) rfl (by first | decide | simp) (x_not rfl (fr.ev rfl) rfl) ?_
        clear fr a; intro a fr
        refine fx_val (v := .bool false) fr rfl rfl (by first | decide | simp) (x_pick_f rfl (fr.ev rfl) (fr.ev rfl)) ?_
        clear fr a; intro a fr
        refine fx_val (v := .bool false) fr rfl rfl (by first | decide | simp) (x_move rfl (fr.ev rfl)) ?_
        clear fr a; intro a fr
        refine fx_val (v := .slice A60 1 ac61) fr (fr.want rfl rfl rfl) rfl (by first | decide | simp) (x_move rfl (fr.ev rfl)) ?_
        clear fr a; intro a fr
        refine fx_val (v := .int .i64 ((1 : Nat) : Int)) fr (fr.want rfl rfl rfl) rfl (by first | decide | simp) (x_len Try.underlying23 rfl (fr.ev rfl)) ?_
        clear fr a; intro a fr
        refine fx_val (v := .bool false) fr (fr.want rfl rfl rfl) rfl (by first | decide | simp) (x_neq rfl (fr.ev rfl) rfl rfl) ?_
        clear fr a; intro a fr
        refine fx_val (v := .bool false) fr rfl rfl (by first | decide | simp) (x_pick_f rfl (fr.ev rfl) (fr.ev rfl)) ?_
        clear fr a; intro a fr
        refine fx_val (v := .bool false) fr rfl rfl (by first | decide | simp) (x_move rfl (fr.ev rfl)) ?_
        clear fr a; intro a fr
        refine fx_val (v := .slice A60 1 ac61) fr (fr.want rfl rfl rfl) rfl (by first | decide | simp) (x_move rfl (fr.ev rfl)) ?_
        clear fr a; intro a fr
        obtain ⟨g72, o73, hA74⟩ := (O63.view).some_ (by first | omega | decide)
        refine fx_val (v := .pointer (some ⟨g72, o73 + 0 * 20, none⟩)) fr (fr.want rfl rfl rfl) rfl (by first | decide | simp) (x_indexV Try.underlying23 sz36 rfl (fr.ev rfl) hA74 rfl (by first | decide | omega) rfl) ?_
        clear fr a; intro a fr
        refine fx_val (v := .pointer (some ⟨g72, o73 + 0 * 20, none⟩)) fr (fr.want rfl rfl rfl) rfl (by first | decide | simp) (x_fieldAddr fo36_0 rfl (fr.ev rfl) rfl) ?_
        clear fr a; intro a fr
        refine fx_val (v := .int .i64 10) fr (fr.want rfl rfl rfl) rfl (by first | decide | simp) (x_load1 pl33 rfl (fr.ev rfl) (range_cell ((O63.view).elem hA74 0 msg0 (by first | omega | decide)) 0 rfl rfl)) ?_
        clear fr a; intro a fr
        refine fx_val (v := .bool false) fr (fr.want rfl rfl rfl) rfl (by first | decide | simp) (x_neq rfl (fr.ev rfl) rfl rfl) ?_
        clear fr a; intro a fr
        refine fx_val (v := .bool false) fr rfl rfl (by first | decide | simp) (x_pick_f rfl (fr.ev rfl) (fr.ev rfl)) ?_
        clear fr a; intro a fr
        refine fx_val (v := .bool false) fr rfl rfl (by first | decide | simp) (x_move rfl (fr.ev rfl)) ?_
        clear fr a; intro a fr
        refine fx_val (v := .slice A60 1 ac61) fr (fr.want rfl rfl rfl) rfl (by first | decide | simp) (x_move rfl (fr.ev rfl)) ?_
        clear fr a; intro a fr
        refine fx_val (v := .pointer (some ⟨g72, o73 + 0 * 20, none⟩)) fr (fr.want rfl rfl rfl) rfl (by first | decide | simp) (x_indexV Try.underlying23 sz36 rfl (fr.ev rfl) hA74 rfl (by first | decide | omega) rfl) ?_
        clear fr a; intro a fr
        refine fx_val (v := .pointer (some ⟨g72, o73 + 0 * 20 + 2, none⟩)) fr (fr.want rfl rfl rfl) rfl (by first | decide | simp) (x_fieldAddr fo36_2 rfl (fr.ev rfl) rfl) ?_
        clear fr a; intro a fr
        refine fx_val (v := .int .i64 1) fr (fr.want rfl rfl rfl) rfl (by first | decide | simp) (x_load1 pl3 rfl (fr.ev rfl) (range_cell ((O63.view).elem hA74 0 msg0 (by first | omega | decide)) 2 rfl rfl)) ?_
        clear fr a; intro a fr
        refine fx_val (v := .bool false) fr (fr.want rfl rfl rfl) rfl (by first | decide | simp) (x_neq rfl (fr.ev rfl) rfl rfl) ?_
        clear fr a; intro a fr
        refine fx_val (v := .bool false) fr rfl rfl (by first | decide | simp) (x_pick_f rfl (fr.ev rfl) (fr.ev rfl)) ?_
        clear fr a; intro a fr
        refine wpList_nil ?_
        refine fx_next ?_
        refine fx_cond_f fr rfl ?_
        refine wp_skip ?_
        refine fx_next ?_
        refine wp_seq ?_
        refine wp_seq ?_
        refine wp_region_lit ?_  -- region 13
        refine fx_val (v := .int .i64 0) fr rfl rfl (by first | decide | simp) (x_assign rfl rfl) ?_
        clear fr a; intro a fr
        refine wpList_nil ?_
        refine fx_next ?_
        refine wp_block ?_
        refine fx_loop (fun nM a wL => ∃ i : Nat, nM = 16 - i ∧ Fr (120, []) [(0, .slice A bs.length cap), (2, .int .u32 ((k : Nat) : Int)), (13, .slice A60 1 ac61), (15, .int .i64 ((i : Nat) : Int))] a ∧ Only (fun _ => False) w wL ∧ View byE wL A cap bs ∧ Own msgE wL A60 ac61 ([sendM (mkM 2 1 4 ((k : Nat) : Int) b16z (by first | decide | omega)) 10 1 (lineB hd.bs ((k : Nat) : Int))]) ∧ i ≤ 16) (n0 := _) ⟨0, rfl, fr.sub ⟨rfl, rfl, rfl, rfl, trivial⟩, hF, hV, O63, by omega⟩ ?_
        rintro n76 a w75 ⟨i, rfl, fr, hF, hV, O63, hi⟩
        refine wp_seq ?_
        refine wp_seq ?_
        refine wp_region_lit ?_  -- region 14
        refine fx_val (v := .int .i64 ((i : Nat) : Int)) fr rfl rfl (by first | decide | simp) (x_move rfl (fr.ev rfl)) ?_
        clear fr a; intro a fr
        refine fx_val (v := .bool (decide (((i : Nat) : Int) < 16))) fr rfl rfl (by first | decide | simp) (x_lss rfl (fr.ev rfl) rfl rfl) ?_
        clear fr a; intro a fr
        refine wpList_nil ?_
        refine fx_next ?_
        refine fx_cond fr rfl (fun hc77 => ?_) (fun hc77 => ?_)
        · skip
          have hc77 := of_decide_eq_true hc77
          refine wp_skip ?_
          refine fx_next ?_
          refine wp_seq ?_
          refine wp_block ?_
          refine wp_seq ?_
          have hbyt : ¬ ([sendM (mkM 2 1 4 ((k : Nat) : Int) b16z (by first | decide | omega)) 10 1 (lineB hd.bs ((k : Nat) : Int))].getD 0 msg0).bs.1.getD i 0 ≠ (((bs.getD (16 * k + i) 0).toNat : Nat) : Int) := by
            show ¬ (lineB hd.bs ((k : Nat) : Int)).1.getD i 0 ≠ _
            rw [hlb, lineB_get bs _ (by rw [Int.toNat_natCast]; omega) i (by omega), Int.toNat_natCast]
            exact fun h => h rfl
          refine fx_held (n := 15) (fun w => View byE w A cap bs ∧ Own msgE w A60 ac61 ([sendM (mkM 2 1 4 ((k : Nat) : Int) b16z (by first | decide | omega)) 10 1 (lineB hd.bs ((k : Nat) : Int))]) ∧ True) (by kernel_rfl) rfl ?_  -- region 16
          intro w78 hN79
          replace hV := hV.new hN79
          replace O63 := O63.new hN79
          replace hF := hF.trNew hN79
          refine fx_take (i := 0) (v := .slice A60 1 ac61) fr rfl (by kernel_rfl) rfl rfl (by first | decide | simp) (fun _ _ _ h => h) (fun _ ⟨hV, O63, _⟩ => x_move rfl (fr.ev rfl)) ⟨hV, O63, trivial⟩ ?_
          clear fr a; intro a fr
          refine fx_take (i := 1) (v := .int .i64 ((i : Nat) : Int)) fr rfl (by kernel_rfl) rfl rfl (by first | decide | simp) (fun _ _ _ h => h) (fun _ ⟨hV, O63, _⟩ => x_move rfl (fr.ev rfl)) ⟨hV, O63, trivial⟩ ?_
          clear fr a; intro a fr
          refine fx_take (i := 2) (v := .pointer (some ⟨g72, o73 + 0 * 20, none⟩)) fr rfl (by kernel_rfl) rfl rfl (by first | decide | simp) (fun _ _ _ h => h) (fun _ ⟨hV, O63, _⟩ => x_indexV Try.underlying23 sz36 rfl (fr.ev rfl) hA74 rfl (by first | decide | omega) rfl) ⟨hV, O63, trivial⟩ ?_
          clear fr a; intro a fr
          refine fx_take (i := 3) (v := .pointer (some ⟨g72, o73 + 0 * 20 + 4, none⟩)) fr rfl (by kernel_rfl) rfl rfl (by first | decide | simp) (fun _ _ _ h => h) (fun _ ⟨hV, O63, _⟩ => x_fieldAddr fo36_4 rfl (fr.ev rfl) rfl) ⟨hV, O63, trivial⟩ ?_
          clear fr a; intro a fr
          refine fx_take (i := 4) (v := .pointer (some ⟨g72, o73 + 0 * 20 + 4 + i, none⟩)) fr rfl (by kernel_rfl) rfl rfl (by first | decide | simp) (fun _ _ _ h => h) (fun _ ⟨hV, O63, _⟩ => x_indexArr Try.underlying34 sz16 rfl (fr.ev rfl) (fr.ev rfl) (by omega) (by omega)) ⟨hV, O63, trivial⟩ ?_
          clear fr a; intro a fr
          refine fx_take (i := 5) (v := .int .u8 ((([sendM (mkM 2 1 4 ((k : Nat) : Int) b16z (by first | decide | omega)) 10 1 (lineB hd.bs ((k : Nat) : Int))]).getD 0 msg0).bs.1.getD i 0)) fr rfl (by kernel_rfl) rfl rfl (by first | decide | simp) (fun _ _ _ h => h) (fun _ ⟨hV, O63, _⟩ => x_load1 pl5 rfl (fr.ev rfl) (range_cell ((O63.view).elem hA74 0 msg0 (by first | omega | decide)) (4 + i) (msg_byte _ i (by omega)) (by omega))) ⟨hV, O63, trivial⟩ ?_
          clear fr a; intro a fr
          refine fx_take (i := 6) (v := .slice A bs.length cap) fr rfl (by kernel_rfl) rfl rfl (by first | decide | simp) (fun _ _ _ h => h) (fun _ ⟨hV, O63, _⟩ => x_move rfl (fr.ev rfl)) ⟨hV, O63, trivial⟩ ?_
          clear fr a; intro a fr
          refine fx_take (i := 7) (v := .int .u32 ((k : Nat) : Int)) fr rfl (by kernel_rfl) rfl rfl (by first | decide | simp) (fun _ _ _ h => h) (fun _ ⟨hV, O63, _⟩ => x_move rfl (fr.ev rfl)) ⟨hV, O63, trivial⟩ ?_
          clear fr a; intro a fr
          refine fx_take (i := 8) (v := .int .i64 ((k : Nat) : Int)) fr rfl (by kernel_rfl) rfl rfl (by first | decide | simp) (fun _ _ _ h => h) (fun _ ⟨hV, O63, _⟩ => x_convert Try.underlying24 Try.underlying3 rfl (fr.ev rfl) (i64w (r := ((k : Nat) : Int)) rfl (by omega))) ⟨hV, O63, trivial⟩ ?_
          clear fr a; intro a fr
          refine fx_take (i := 9) (v := .int .i64 ((16 * k : Nat) : Int)) fr rfl (by kernel_rfl) rfl rfl (by first | decide | simp) (fun _ _ _ h => h) (fun _ ⟨hV, O63, _⟩ => x_mul rfl rfl (fr.ev rfl) (i64w (r := ((16 * k : Nat) : Int)) (by omega) (by omega))) ⟨hV, O63, trivial⟩ ?_
          clear fr a; intro a fr
          refine fx_take (i := 10) (v := .int .i64 ((i : Nat) : Int)) fr rfl (by kernel_rfl) rfl rfl (by first | decide | simp) (fun _ _ _ h => h) (fun _ ⟨hV, O63, _⟩ => x_move rfl (fr.ev rfl)) ⟨hV, O63, trivial⟩ ?_
          clear fr a; intro a fr
          refine fx_take (i := 11) (v := .int .i64 (((16 * k) + i : Nat) : Int)) fr rfl (by kernel_rfl) rfl rfl (by first | decide | simp) (fun _ _ _ h => h) (fun _ ⟨hV, O63, _⟩ => x_add rfl (fr.ev rfl) (fr.ev rfl) (i64w (r := (((16 * k) + i : Nat) : Int)) (by omega) (by omega))) ⟨hV, O63, trivial⟩ ?_
          clear fr a; intro a fr
          obtain ⟨g80, o81, hA82⟩ := (hV).some_ (by first | omega | decide)
          refine fx_take (i := 12) (v := .pointer (some ⟨g80, o81 + ((16 * k) + i) * 1, none⟩)) fr rfl (by kernel_rfl) rfl rfl (by first | decide | simp) (fun _ _ _ h => h) (fun _ ⟨hV, O63, _⟩ => x_indexV Try.underlying22 sz5 rfl (fr.ev rfl) hA82 (fr.ev rfl) (by first | decide | omega) rfl) ⟨hV, O63, trivial⟩ ?_
          clear fr a; intro a fr
          refine fx_take (i := 13) (v := .int .u8 (((bs.getD ((16 * k) + i) 0).toNat : Nat) : Int)) fr rfl (by kernel_rfl) rfl rfl (by first | decide | simp) (fun _ _ _ h => h) (fun _ ⟨hV, O63, _⟩ => x_load1 pl5 rfl (fr.ev rfl) (range_cell ((hV).elem hA82 ((16 * k) + i) 0 (by first | omega | decide)) 0 rfl rfl)) ⟨hV, O63, trivial⟩ ?_
          clear fr a; intro a fr
          refine fx_take (i := 14) (v := .bool (decide ((([sendM (mkM 2 1 4 ((k : Nat) : Int) b16z (by first | decide | omega)) 10 1 (lineB hd.bs ((k : Nat) : Int))]).getD 0 msg0).bs.1.getD i 0 ≠ (((bs.getD ((16 * k) + i) 0).toNat : Nat) : Int)))) fr rfl (by kernel_rfl) rfl rfl (by first | decide | simp) (fun _ _ _ h => h) (fun _ ⟨hV, O63, _⟩ => x_neq rfl (fr.ev rfl) (fr.ev rfl) rfl) ⟨hV, O63, trivial⟩ ?_
          clear fr a; intro a fr
          refine fx_hdone (by kernel_rfl) ?_
          refine fx_next ?_
          refine fx_cond fr rfl (fun hc83 => ?_) (fun hc83 => ?_)
          · skip
            have hc83 := of_decide_eq_true hc83
            refine wp_seq ?_
            refine wp_region_lit ?_  -- region 17
            refine fx_val (v := .bool false) fr rfl rfl (by first | decide | simp) (x_assign rfl rfl) ?_
            clear fr a; intro a fr
            refine wpList_nil ?_
            refine fx_next ?_
            refine wp_ret ?_
            refine fx_rb ?_
            refine fx_rt ?_
            refine fx_rt ?_
            refine fx_rb ?_
            refine fx_rt ?_
            refine fx_ret fr [.tmp 6] [.bool false] rfl ⟨rfl, trivial⟩ rfl ?_
            exact absurd hc83 hbyt
          · skip
            have hc83 := of_decide_eq_false hc83
            refine wp_skip ?_
            refine fx_blk ?_
            refine fx_next ?_
            refine wp_region_lit ?_  -- region 15
            refine fx_val (v := .int .i64 ((i : Nat) : Int)) fr rfl rfl (by first | decide | simp) (x_move rfl (fr.ev rfl)) ?_
            clear fr a; intro a fr
            refine fx_val (v := .int .i64 ((i + 1 : Nat) : Int)) fr rfl rfl (by first | decide | simp) (x_add rfl (fr.ev rfl) rfl (i64w (r := ((i + 1 : Nat) : Int)) (by omega) (by omega))) ?_
            clear fr a; intro a fr
            refine fx_val (v := .int .i64 ((i + 1 : Nat) : Int)) fr rfl rfl (by first | decide | simp) (x_assign rfl (fr.ev rfl)) ?_
            clear fr a; intro a fr
            refine wpList_nil ?_
            refine fx_next ?_
            exact ⟨_, by omega, (i + 1), rfl, fr.sub ⟨rfl, rfl, rfl, rfl, trivial⟩, hF, hV, O63, by omega⟩
        · skip
          have hc77 := of_decide_eq_false hc77
          refine wp_exit ?_
          refine fx_xt ?_
          refine fx_xt ?_
          refine fx_xx ?_
          refine fx_next ?_
          refine wp_seq ?_
          refine wp_region_lit ?_  -- region 18
          refine fx_call fr rfl rfl (by first | decide | simp) (x_call (vs := []) rfl rfl trivial Try.func11 nm11 rfl) (known_c _) ?_
          clear fr a
          rintro v w84 ⟨rfl, hN85⟩ a fr
          replace hV := hV.new hN85
          replace O63 := O63.new hN85
          replace hF := hF.trNew hN85
          refine fx_val (v := .bool true) fr rfl rfl (by first | decide | simp) (x_assign rfl (fr.ev rfl)) ?_
          clear fr a; intro a fr
          refine wpList_nil ?_
          refine fx_next ?_
          refine wp_ret ?_
          refine fx_ret fr [.tmp 6] [.bool true] rfl ⟨rfl, trivial⟩ rfl ?_
          exact ⟨_, rfl, rfl, hF⟩
end Go.Proofs.Ytdiaemlgghfecaa
namespace Go.Proofs.Ytdiaemlgghfecaa
open Go.RowKit Go.ChangeShapes Go.WideShapes Go.ChangeAt Go.Deep
section
variable {H : Type} {enc : TypeId × Value → H} {P : Program} {w : World} {base : Nat} {spare : Nat → Bool} {held : Bool} {fuel : Nat} {cs : List Value} {x : DataW H × List MemPlace}
theorem piece {q n : Nat} {a b : List Value} (h1 : (cs.drop q).take n = a) (h2 : cs.drop (q + n) = b) : cs.drop q = a ++ b := by
  rw [← h1, ← h2, ← List.drop_drop, List.take_append_drop]
theorem trod_ints {t e n : Nat} {k : IntKind} (ht : P.underlying t = some (.array n e)) (he : P.underlying e = some (.int k)) (hC : P.cellsOf e = 1) (hCt : P.cellsOf t = n) (h : DataW.trod enc P w base spare held fuel t cs = some x) :
    ∃ l : List Int, l.length = n ∧ cs = l.map (Value.int k) ∧ ∀ a ∈ l, (Lit.int k a).wf = true := by
  obtain ⟨xs, m, _, _, hl, hxl, hi⟩ := DataW.trod_array ht h
  rw [hC] at hi
  rw [hCt] at hl
  have hb : ∀ i, (h : i < cs.length) → ∃ a : Int, cs[i] = .int k a ∧ (Lit.int k a).wf = true := by
    intro i h
    have h2 := hi i (by omega)
    have e1 : (cs.drop (i * 1)).take 1 = [cs[i]] := by
      rw [Nat.mul_one, List.drop_eq_getElem_cons h]
      rfl
    rw [e1, List.getElem?_eq_getElem (show i < xs.length by omega)] at h2
    obtain ⟨a, e0, _, wa⟩ := DataW.trod_int he h2
    exact ⟨a, by simpa using e0, wa⟩
  obtain ⟨f, hf⟩ : ∃ f : (i : Fin cs.length) → Int, ∀ i : Fin cs.length, cs[i.1] = .int k (f i) ∧ (Lit.int k (f i)).wf = true := ⟨fun i => (hb i i.2).choose, fun i => (hb i i.2).choose_spec⟩
  refine ⟨List.ofFn f, by simp [hl], ?_, ?_⟩
  · apply List.ext_getElem
    · simp
    · intro i h1 h2
      rw [(hf ⟨i, h1⟩).1]
      simp
  · intro a ha
    obtain ⟨i, rfl⟩ := List.mem_ofFn.1 ha
    exact (hf i).2
theorem has_addr {r : Reach} {a : Addr} {e n : Nat} (h : w.has P r base a e n) : ∃ g o, a = ⟨g, o, none⟩ ∧ g < w.heap.size := by
  obtain ⟨_, h1, row, cells, h2, _⟩ := h
  obtain ⟨g, o, s⟩ := a
  subst h1
  refine ⟨g, o, rfl, ?_⟩
  unfold World.shape? at h2
  rcases Nat.lt_or_ge g w.heap.size with h | h
  · exact h
  · have : w.heap[g]? = none := Array.getElem?_eq_none h
    simp [this] at h2
theorem add_none (g o i : Nat) : (⟨g, o, none⟩ : Addr).add i = ⟨g, o + i, none⟩ := by
  unfold Addr.add
  by_cases h : i = 0 <;> simp [h]
theorem open_recs {α : Type} [DecidableEq α] {E : Enc P α} {OK : α → Prop} {t : TypeId} {r : Reach} {b0 : Nat} {v : Value} {d : DataW H} {p : List MemPlace} (ht : P.underlying t = some (.slice E.T)) (hC : P.cellsOf E.T = E.n)
    (hel : ∀ fuel cs x, DataW.trod enc P w base (fun _ => true) held fuel E.T cs = some x → ∃ m, OK m ∧ cs = E.cells m) (hv : Value.okWide P w r b0 t v) (h : DataW.Trod enc P w base (fun _ => true) held t v d p) :
    ∃ A cap l, v = .slice A l.length cap ∧ View E w A cap l ∧ ∀ m ∈ l, OK m := by
  obtain ⟨a0, len, cap, rfl⟩ := okWide_slice ht hv
  obtain ⟨fuel, hf⟩ := h
  rcases open_slice ht hf with ⟨hcs, _⟩ | ⟨a, l, c, m, n, D, Pl, hcs, _, hl, hm, hz, _, hcell⟩
  · simp [Value.cells] at hcs
    obtain ⟨rfl, rfl, rfl⟩ := hcs
    exact ⟨none, 0, [], rfl, View.nil, by simp⟩
  · simp [Value.cells] at hcs
    obtain ⟨rfl, rfl, rfl⟩ := hcs
    rw [if_pos rfl] at hz
    subst hz
    have hh : w.has P r b0 a E.T m := by
      unfold Value.okWide at hv
      rw [ht] at hv
      simp only [Cell.okWide, ht, Cell.ok] at hv
      exact hv.2.2
    obtain ⟨g, o, rfl, hg⟩ := has_addr hh
    rw [hC] at hcell
    have hb : ∀ i : Fin len, ∃ q : α, OK q ∧ w.rangeAt g (o + i.1 * E.n) (E.cells q) := by
      intro i
      obtain ⟨cs', h1, h2⟩ := hcell i.1 (by omega)
      obtain ⟨q, hq, rfl⟩ := hel _ _ _ h2
      obtain ⟨_, hcl, hat⟩ := World.cells?_some h1
      refine ⟨q, hq, fun j v hj => ?_⟩
      have hjl := (List.getElem?_eq_some_iff.1 hj).1
      have := hat j (by omega)
      rw [add_none, add_none] at this
      rw [this, hj]
    obtain ⟨f, hf⟩ : ∃ f : Fin len → α, ∀ i, OK (f i) ∧ w.rangeAt g (o + i.1 * E.n) (E.cells (f i)) := ⟨fun i => (hb i).choose, fun i => (hb i).choose_spec⟩
    refine ⟨some ⟨g, o, none⟩, m, List.ofFn f, by simp, ⟨by simp; omega, hm, .inr ⟨g, o, rfl, hg, fun j v hj => ?_⟩⟩, ?_⟩
    · have hjl := (List.getElem?_eq_some_iff.1 hj).1
      rw [flat_len, List.length_ofFn] at hjl
      have hn := E.pos
      have hq : j / E.n < len := (Nat.div_lt_iff_lt_mul hn).2 hjl
      have hr : j % E.n < E.n := Nat.mod_lt _ hn
      have hj2 : j / E.n * E.n + j % E.n = j := by rw [Nat.mul_comm]; exact Nat.div_add_mod j E.n
      have e1 := flat_drop (E := E) (List.ofFn f) (j / E.n) (by simpa using hq)
      have e2 : (E.cells (f ⟨j / E.n, hq⟩))[j % E.n]? = some v := by
        rw [List.getElem_ofFn] at e1
        rw [← e1, List.getElem?_take, if_pos hr, List.getElem?_drop, hj2]
        exact hj
      have := (hf ⟨j / E.n, hq⟩).2 (j % E.n) v e2
      rw [← this]
      show _ = w.cell? ⟨g, o + j / E.n * E.n + j % E.n, none⟩
      rw [Nat.add_assoc, hj2]
    · intro q hq
      obtain ⟨i, rfl⟩ := List.mem_ofFn.1 hq
      exact (hf i).1
end
end Go.Proofs.Ytdiaemlgghfecaa
namespace Go.Proofs.Ytdiaemlgghfecaa
open Go.RowKit Go.ChangeShapes Go.WideShapes Go.ChangeAt
section
variable {H : Type} {enc : TypeId × Value → H} {w : World} {base : Nat} {spare : Nat → Bool} {held : Bool} {fuel : Nat} {cs : List Value} {x : DataW H × List MemPlace}
theorem cellsMSG : Try.prog.cellsOf 36 = 20 := by kernel_rfl
theorem cellsKIND : Try.prog.cellsOf 33 = 1 := by kernel_rfl
theorem cellsU32 : Try.prog.cellsOf 24 = 1 := by kernel_rfl
theorem cellsARR : Try.prog.cellsOf 34 = 16 := by kernel_rfl
theorem cellsU8 : Try.prog.cellsOf 5 = 1 := by kernel_rfl
theorem cellsI64 : Try.prog.cellsOf 3 = 1 := by kernel_rfl
theorem wf_u32 {a : Int} (h : (Lit.int .u32 a).wf = true) : 0 ≤ a ∧ a < 4294967296 := by
  simp [Lit.wf, IntKind.min, IntKind.max, IntKind.signed, IntKind.bits] at h
  omega
theorem wf_u8 {a : Int} (h : (Lit.int .u8 a).wf = true) : 0 ≤ a ∧ a < 256 := by
  simp [Lit.wf, IntKind.min, IntKind.max, IntKind.signed, IntKind.bits] at h
  omega
theorem trod_msg (h : DataW.trod enc Try.prog w base spare held fuel 36 cs = some x) : ∃ m : Msg, True ∧ cs = m.cells := by
  obtain ⟨xs, n, _, _, hl, hlen, hg⟩ := DataW.trod_struct Try.underlying36 h
  rw [cellsMSG] at hl
  match xs, hlen with
  | [y0, y1, y2, y3, y4], _ =>
    have h0 : DataW.trod enc Try.prog w base spare held n 33 ((cs.drop 0).take (Try.prog.cellsOf 33)) = some y0 := hg 0 _ rfl
    rw [cellsKIND] at h0
    have h1 : DataW.trod enc Try.prog w base spare held n 3 ((cs.drop 1).take (Try.prog.cellsOf 3)) = some y1 := hg 1 _ rfl
    rw [cellsI64] at h1
    have h2 : DataW.trod enc Try.prog w base spare held n 3 ((cs.drop 2).take (Try.prog.cellsOf 3)) = some y2 := hg 2 _ rfl
    rw [cellsI64] at h2
    have h3 : DataW.trod enc Try.prog w base spare held n 24 ((cs.drop 3).take (Try.prog.cellsOf 24)) = some y3 := hg 3 _ rfl
    rw [cellsU32] at h3
    have h4 : DataW.trod enc Try.prog w base spare held n 34 ((cs.drop 4).take (Try.prog.cellsOf 34)) = some y4 := hg 4 _ rfl
    rw [cellsARR] at h4
    obtain ⟨a0, e0, _⟩ := DataW.trod_int Try.underlying33 h0
    obtain ⟨a1, e1, _⟩ := DataW.trod_int Try.underlying3 h1
    obtain ⟨a2, e2, _⟩ := DataW.trod_int Try.underlying3 h2
    obtain ⟨a3, e3, _, w3⟩ := DataW.trod_int Try.underlying24 h3
    obtain ⟨l, hll, e4, hw⟩ := trod_ints Try.underlying34 Try.underlying5 cellsU8 cellsARR h4
    refine ⟨⟨a0, a1, a2, a3, ⟨l, hll, fun a ha => wf_u8 (hw a ha)⟩, wf_u32 w3⟩, trivial, ?_⟩
    have p5 : cs.drop 20 = [] := List.drop_eq_nil_of_le (by omega)
    have p4 := piece e4 p5
    have p3 := piece e3 p4
    have p2 := piece e2 p3
    have p1 := piece e1 p2
    have p0 := piece e0 p1
    rw [List.drop_zero] at p0
    rw [p0]
    simp [Msg.cells]
theorem trod_byte (h : DataW.trod enc Try.prog w base spare held fuel 5 cs = some x) : ∃ m : UInt8, True ∧ cs = byE.cells m := by
  obtain ⟨a, e, _, wa⟩ := DataW.trod_int Try.underlying5 h
  have := wf_u8 wa
  refine ⟨UInt8.ofNat a.toNat, trivial, ?_⟩
  rw [e]
  show _ = [u8v _]
  unfold u8v
  congr 2
  simp
  omega
def MsgsArg (w : World) (v : Value) : Prop := ∃ A cap l, v = .slice A l.length cap ∧ View msgE w A cap l
def BytArg (w : World) (v : Value) : Prop := ∃ A cap l, v = .slice A l.length cap ∧ View byE w A cap l
set_option maxRecDepth 100000 in
theorem open_msgs {r : Reach} {b0 : Nat} {v : Value} {d : DataW H} {p : List MemPlace} (hv : Value.okWide Try.prog w r b0 23 v) (h : DataW.Trod enc Try.prog w base (fun _ => true) held 23 v d p) : MsgsArg w v := by
  obtain ⟨A, cap, l, h1, h2, _⟩ := open_recs (E := msgE) (OK := fun _ => True) Try.underlying23 cellsMSG (fun _ _ _ => trod_msg) hv h
  exact ⟨A, cap, l, h1, h2⟩
set_option maxRecDepth 100000 in
theorem open_byts {r : Reach} {b0 : Nat} {v : Value} {d : DataW H} {p : List MemPlace} (hv : Value.okWide Try.prog w r b0 22 v) (h : DataW.Trod enc Try.prog w base (fun _ => true) held 22 v d p) : BytArg w v := by
  obtain ⟨A, cap, l, h1, h2, _⟩ := open_recs (E := byE) (OK := fun _ => True) Try.underlying22 cellsU8 (fun _ _ _ => trod_byte) hv h
  exact ⟨A, cap, l, h1, h2⟩
end
end Go.Proofs.Ytdiaemlgghfecaa
namespace Go.Proofs.Ytdiaemlgghfecaa
open Go.RowKit
set_option linter.unusedVariables false
theorem walk_HomeOther (w : World) (v0 : Value) (hv0 : BytArg w v0) (v1 : Value) (hv1 : MsgsArg w v1) (a2 : Int) (h2 : (Lit.int .u32 a2).wf = true) : Calls Try.prog 3 #[v0, v1, .int .u32 a2] w fun e w' => e = .returned (.bool true) ∧ Below w.heap.size w w' := by
  obtain ⟨A0, c0, l0, rfl, hv0⟩ := hv0
  obtain ⟨A1, c1, l1, rfl, hv1⟩ := hv1
  have hw := wf_u32 h2
  obtain ⟨k, rfl⟩ : ∃ k : Nat, a2 = ((k : Nat) : Int) := ⟨a2.toNat, by omega⟩
  cases hs : sizeB l0 with
  | false =>
    refine (other_no hv0 hv1 k (by omega) hs).mono ?_
    rintro e w' ⟨v, rfl, rfl, hn⟩
    exact ⟨rfl, hn.nb⟩
  | true =>
    refine (other_yes hv0 hv1 k (by omega) hs).mono ?_
    rintro e w' ⟨v, rfl, rfl, hn⟩
    exact ⟨rfl, hn.nb⟩
end Go.Proofs.Ytdiaemlgghfecaa
