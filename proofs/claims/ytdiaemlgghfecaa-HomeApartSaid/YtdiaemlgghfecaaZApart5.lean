/-
  Part 5 of what the claim stands on: walks through the code, plain laws.
-/
import Derived.Test.YtdiaemlgghfecaaZApart4
namespace Go.Proofs.Ytdiaemlgghfecaa
open Go.RowKit
set_option maxRecDepth 100000 in
set_option maxHeartbeats 4000000 in
theorem apart_no {w : World} {A : Option Addr} {cap : Nat} {bs : List UInt8} (hV : View byE w A cap bs) {C : Option Addr} {cc : Nat} {l : List Msg} (hL : View msgE w C cc l) (hs : sizeB bs = false) : Calls Try.prog 5 #[.slice A bs.length cap, .slice C l.length cc] w (Ret fun v w' => v = .bool true ∧ New w w') := by
  have hVl := hV.len
  have hLl := hL.len
  unfold maxLen at hVl hLl
  have hF := Only.refl (fun _ => False) w
  refine fx_enter Try.func5 rfl (N := (153, [])) (T := [(0, .slice A bs.length cap), (1, .slice C l.length cc)]) rfl (show 2 ≤ 153 by decide) ⟨rfl, rfl, trivial⟩ fun a fr => ?_
  refine wp_seq ?_
  refine wp_region_lit ?_  -- region 0
  refine fx_val (v := .bool false) fr rfl rfl (by first | decide | simp) (x_assign rfl rfl) ?_
  clear fr a; intro a fr
  refine wpList_nil ?_
  refine fx_next ?_
  refine wp_seq ?_
  refine wp_region_lit ?_  -- region 1
  refine fx_val (v := .slice A bs.length cap) fr rfl rfl (by first | decide | simp) (x_move rfl (fr.ev rfl)) ?_
  clear fr a; intro a fr
  refine fx_call fr rfl rfl (by first | decide | simp) (x_call (vs := [.slice A bs.length cap]) rfl rfl ⟨(fr.ev rfl), trivial⟩ Try.func9 nm9 rfl) (made_no hV hs) ?_
  clear fr a
  rintro v w1 ⟨rfl, hN2⟩ a fr
  replace hV := hV.new hN2
  replace hL := hL.new hN2
  replace hF := hF.trNew hN2
  refine fx_val (v := .tuple #[.pointer none, .agg (#[.slice none 0 0, .slice none 0 0]), .bool false]) fr rfl rfl (by first | decide | simp) (x_move rfl (fr.ev rfl)) ?_
  clear fr a; intro a fr
  refine fx_val (v := .pointer none) fr rfl rfl (by first | decide | simp) (x_extract rfl (fr.ev rfl) rfl) ?_
  clear fr a; intro a fr
  refine fx_val (v := .agg (#[.slice none 0 0, .slice none 0 0])) fr rfl rfl (by first | decide | simp) (x_extract rfl (fr.ev rfl) rfl) ?_
  clear fr a; intro a fr
  refine fx_val (v := .bool false) fr rfl rfl (by first | decide | simp) (x_extract rfl (fr.ev rfl) rfl) ?_
  clear fr a; intro a fr
  refine fx_new fr rfl rfl (by first | decide | simp) (x_alloc (z := .agg (#[.slice none 0 0, .slice none 0 0])) (cs := #[.slice none 0 0, .slice none 0 0]) rfl (by kernel_rfl) rfl) ?_
  clear fr a
  intro b3 w4 hN5 B6 hb7 a fr
  have ap_A_b3 : Apart A b3 := hV.apart hb7
  have ap_C_b3 : Apart C b3 := hL.apart hb7
  have g_b3 := Nat.le_trans hF.size hb7
  replace hV := hV.new hN5
  replace hL := hL.new hN5
  replace hF := hF.trNew hN5
  refine fx_val (v := .pointer none) fr rfl rfl (by first | decide | simp) (x_assign rfl (fr.ev rfl)) ?_
  clear fr a; intro a fr
  refine fx_storeS sz28 rfl rfl rfl (fr.ev rfl) (fr.ev rfl) (by simp [Value.oneCell']) B6 rfl rfl fun w8 hO9 hBq => ?_
  replace hV := hV.only hO9 (Apart.ne1 ap_A_b3)
  replace hL := hL.only hO9 (Apart.ne1 ap_C_b3)
  replace hF := hF.loc hO9 (.inr g_b3)
  replace B6 := hBq
  clear hBq
  refine fx_val (v := .bool false) fr rfl rfl (by first | decide | simp) (x_assign rfl (fr.ev rfl)) ?_
  clear fr a; intro a fr
  refine wpList_nil ?_
  refine fx_next ?_
  refine wp_seq ?_
  refine wp_seq ?_
  refine wp_region_lit ?_  -- region 2
  refine fx_val (v := .bool false) fr rfl rfl (by first | decide | simp) (x_move rfl (fr.ev rfl)) ?_
  clear fr a; intro a fr
  refine fx_val (v := .bool true) fr rfl rfl (by first | decide | simp) (x_not rfl (fr.ev rfl) rfl) ?_
  clear fr a; intro a fr
  refine fx_val (v := .bool true) fr rfl rfl (by first | decide | simp) (x_move rfl (fr.ev rfl)) ?_
  clear fr a; intro a fr
  refine fx_skip fr (fr.unwant rfl rfl rfl (by decide)) rfl (by first | decide | simp) ?_
  clear fr a; intro a fr
  refine fx_skip fr (fr.unwant rfl rfl rfl (by decide)) rfl (by first | decide | simp) ?_
  clear fr a; intro a fr
  refine fx_skip fr (fr.unwant rfl rfl rfl (by decide)) rfl (by first | decide | simp) ?_
  clear fr a; intro a fr
  refine fx_val (v := .bool true) fr rfl rfl (by first | decide | simp) (x_pick_t rfl (fr.ev rfl) rfl) ?_
  clear fr a; intro a fr
  refine wpList_nil ?_
  refine fx_next ?_
  refine fx_cond_t fr rfl ?_
  refine wp_seq ?_
  refine wp_region_lit ?_  -- region 3
  refine fx_call fr rfl rfl (by first | decide | simp) (x_call (vs := []) rfl rfl trivial Try.func11 nm11 rfl) (known_c _) ?_
  clear fr a
  rintro v w10 ⟨rfl, hN11⟩ a fr
  replace hV := hV.new hN11
  replace hL := hL.new hN11
  replace B6 := B6.new hN11
  replace hF := hF.trNew hN11
  refine fx_val (v := .bool true) fr rfl rfl (by first | decide | simp) (x_assign rfl (fr.ev rfl)) ?_
  clear fr a; intro a fr
  refine wpList_nil ?_
  refine fx_next ?_
  refine wp_ret ?_
  refine fx_rt ?_
  refine fx_ret fr [.tmp 4] [.bool true] rfl ⟨rfl, trivial⟩ rfl ?_
  exact ⟨_, rfl, rfl, hF⟩
set_option maxRecDepth 100000 in
set_option maxHeartbeats 4000000 in
theorem apart_yes {w : World} {A : Option Addr} {cap : Nat} {bs : List UInt8} (hV : View byE w A cap bs) {C : Option Addr} {cc : Nat} {l : List Msg} (hL : View msgE w C cc l) (hs : sizeB bs = true) : Calls Try.prog 5 #[.slice A bs.length cap, .slice C l.length cc] w (Ret fun v w' => v = .bool true ∧ New w w') := by
  have hVl := hV.len
  have hLl := hL.len
  unfold maxLen at hVl hLl
  have hsz := size_bd hs
  have h0l : (home0 bs).E.length = bs.length / 16 := by simp [home0]
  have hF := Only.refl (fun _ => False) w
  refine fx_enter Try.func5 rfl (N := (153, [])) (T := [(0, .slice A bs.length cap), (1, .slice C l.length cc)]) rfl (show 2 ≤ 153 by decide) ⟨rfl, rfl, trivial⟩ fun a fr => ?_
  refine wp_seq ?_
  refine wp_region_lit ?_  -- region 0
  refine fx_val (v := .bool false) fr rfl rfl (by first | decide | simp) (x_assign rfl rfl) ?_
  clear fr a; intro a fr
  refine wpList_nil ?_
  refine fx_next ?_
  refine wp_seq ?_
  refine wp_region_lit ?_  -- region 1
  refine fx_val (v := .slice A bs.length cap) fr rfl rfl (by first | decide | simp) (x_move rfl (fr.ev rfl)) ?_
  clear fr a; intro a fr
  refine fx_call fr rfl rfl (by first | decide | simp) (x_call (vs := [.slice A bs.length cap]) rfl rfl ⟨(fr.ev rfl), trivial⟩ Try.func9 nm9 rfl) (made_yes hV hs) ?_
  clear fr a
  rintro v w13 ⟨hb1, Fp2, A3, cap4, B5, cb6, FpR7, rfl, H8, R9, hf10, hr11, hd12, hN14⟩ a fr
  have ap2_A_Fp2 : ∀ k, inA A k → Fp2 k → False := symP (new_apart2P hf10 fun _ hg => hV.lt hg)
  have ap2_C_Fp2 : ∀ k, inA C k → Fp2 k → False := symP (new_apart2P hf10 fun _ hg => hL.lt hg)
  have gA_Fp2 := gA_newP hF hf10
  have gN_Fp2 := fun g (hg : Fp2 g) => Nat.le_trans hF.size (hf10 g hg)
  have ap2_A_FpR7 : ∀ k, inA A k → FpR7 k → False := symP (new_apart2P hr11 fun _ hg => hV.lt hg)
  have ap2_C_FpR7 : ∀ k, inA C k → FpR7 k → False := symP (new_apart2P hr11 fun _ hg => hL.lt hg)
  have gA_FpR7 := gA_newP hF hr11
  have gN_FpR7 := fun g (hg : FpR7 g) => Nat.le_trans hF.size (hr11 g hg)
  have ap2_Fp2_FpR7 := hd12
  replace hV := hV.new hN14
  replace hL := hL.new hN14
  replace hF := hF.trNew hN14
  refine fx_val (v := .tuple #[.pointer (some ⟨hb1, 0, none⟩), .agg (#[.slice A3 bs.length cap4, .slice B5 (bs.length / 16) cb6]), .bool true]) fr rfl rfl (by first | decide | simp) (x_move rfl (fr.ev rfl)) ?_
  clear fr a; intro a fr
  refine fx_val (v := .pointer (some ⟨hb1, 0, none⟩)) fr rfl rfl (by first | decide | simp) (x_extract rfl (fr.ev rfl) rfl) ?_
  clear fr a; intro a fr
  refine fx_val (v := .agg (#[.slice A3 bs.length cap4, .slice B5 (bs.length / 16) cb6])) fr rfl rfl (by first | decide | simp) (x_extract rfl (fr.ev rfl) rfl) ?_
  clear fr a; intro a fr
  refine fx_val (v := .bool true) fr rfl rfl (by first | decide | simp) (x_extract rfl (fr.ev rfl) rfl) ?_
  clear fr a; intro a fr
  refine fx_new fr rfl rfl (by first | decide | simp) (x_alloc (z := .agg (#[.slice none 0 0, .slice none 0 0])) (cs := #[.slice none 0 0, .slice none 0 0]) rfl (by kernel_rfl) rfl) ?_
  clear fr a
  intro b15 w16 hN17 B18 hb19 a fr
  have ap_A_b15 : Apart A b15 := hV.apart hb19
  have ap_C_b15 : Apart C b15 := hL.apart hb19
  have ap_Fp2_b15 : ¬ Fp2 b15 := H8.apart hb19
  have ap_FpR7_b15 : ¬ FpR7 b15 := R9.apart hb19
  have g_b15 := Nat.le_trans hF.size hb19
  replace hV := hV.new hN17
  replace hL := hL.new hN17
  replace H8 := H8.new hN17
  replace R9 := R9.new hN17
  replace hF := hF.trNew hN17
  refine fx_val (v := .pointer (some ⟨hb1, 0, none⟩)) fr rfl rfl (by first | decide | simp) (x_assign rfl (fr.ev rfl)) ?_
  clear fr a; intro a fr
  refine fx_storeS sz28 rfl rfl rfl (fr.ev rfl) (fr.ev rfl) (by simp [Value.oneCell']) B18 rfl rfl fun w20 hO21 hBq => ?_
  replace hV := hV.only hO21 (Apart.ne1 ap_A_b15)
  replace hL := hL.only hO21 (Apart.ne1 ap_C_b15)
  replace H8 := H8.only hO21 (ne1P ap_Fp2_b15)
  replace R9 := R9.only hO21 (ne1P ap_FpR7_b15)
  replace hF := hF.loc hO21 (.inr g_b15)
  replace B18 := hBq
  clear hBq
  refine fx_val (v := .bool true) fr rfl rfl (by first | decide | simp) (x_assign rfl (fr.ev rfl)) ?_
  clear fr a; intro a fr
  refine wpList_nil ?_
  refine fx_next ?_
  refine wp_seq ?_
  refine wp_seq ?_
  refine wp_region_lit ?_  -- region 2
  refine fx_val (v := .bool true) fr rfl rfl (by first | decide | simp) (x_move rfl (fr.ev rfl)) ?_
  clear fr a; intro a fr
  refine fx_val (v := .bool false) fr rfl rfl (by first | decide | simp) (x_not rfl (fr.ev rfl) rfl) ?_
  clear fr a; intro a fr
  refine fx_val (v := .bool false) fr rfl rfl (by first | decide | simp) (x_move rfl (fr.ev rfl)) ?_
  clear fr a; intro a fr
  refine fx_val (v := .slice C l.length cc) fr (fr.want rfl rfl rfl) rfl (by first | decide | simp) (x_move rfl (fr.ev rfl)) ?_
  clear fr a; intro a fr
  refine fx_val (v := .int .i64 ((l.length : Nat) : Int)) fr (fr.want rfl rfl rfl) rfl (by first | decide | simp) (x_len Try.underlying23 rfl (fr.ev rfl)) ?_
  clear fr a; intro a fr
  refine fx_val (v := .bool (decide (40 < ((l.length : Nat) : Int)))) fr (fr.want rfl rfl rfl) rfl (by first | decide | simp) (x_gtr rfl (fr.ev rfl) rfl rfl) ?_
  clear fr a; intro a fr
  refine fx_val (v := .bool (decide (40 < ((l.length : Nat) : Int)))) fr rfl rfl (by first | decide | simp) (x_pick_f rfl (fr.ev rfl) (fr.ev rfl)) ?_
  clear fr a; intro a fr
  refine wpList_nil ?_
  refine fx_next ?_
  refine fx_cond fr rfl (fun hc22 => ?_) (fun hc22 => ?_)
  · skip
    have hc22 := of_decide_eq_true hc22
    refine wp_seq ?_
    refine wp_region_lit ?_  -- region 3
    refine fx_call fr rfl rfl (by first | decide | simp) (x_call (vs := []) rfl rfl trivial Try.func11 nm11 rfl) (known_c _) ?_
    clear fr a
    rintro v w23 ⟨rfl, hN24⟩ a fr
    replace hV := hV.new hN24
    replace hL := hL.new hN24
    replace H8 := H8.new hN24
    replace R9 := R9.new hN24
    replace B18 := B18.new hN24
    replace hF := hF.trNew hN24
    refine fx_val (v := .bool true) fr rfl rfl (by first | decide | simp) (x_assign rfl (fr.ev rfl)) ?_
    clear fr a; intro a fr
    refine wpList_nil ?_
    refine fx_next ?_
    refine wp_ret ?_
    refine fx_rt ?_
    refine fx_ret fr [.tmp 4] [.bool true] rfl ⟨rfl, trivial⟩ rfl ?_
    exact ⟨_, rfl, rfl, hF⟩
  · skip
    have hc22 := of_decide_eq_false hc22
    refine wp_skip ?_
    refine fx_next ?_
    refine wp_seq ?_
    refine wp_seq ?_
    refine wp_region_lit ?_  -- region 4
    refine fx_val (v := .int .i64 0) fr rfl rfl (by first | decide | simp) (x_assign rfl rfl) ?_
    clear fr a; intro a fr
    refine wpList_nil ?_
    refine fx_next ?_
    refine wp_block ?_
    refine fx_loop (fun nM a wL => ∃ i : Nat, ∃ hd : HD, ∃ FpX : Nat → Prop, nM = l.length - i ∧ Fr (153, []) [(0, .slice A bs.length cap), (1, .slice C l.length cc), (5, .pointer (some ⟨hb1, 0, none⟩)), (8, .int .i64 ((i : Nat) : Int))] a ∧ Only (fun _ => False) w wL ∧ View byE wL A cap bs ∧ View msgE wL C cc l ∧ HomeAt wL FpX hb1 hd ∧ i ≤ l.length ∧ HI i hd ∧ hd.E.length = bs.length / 16 ∧ (∀ k, inA A k → FpX k → False) ∧ (∀ k, inA C k → FpX k → False) ∧ (∀ g, FpX g → (fun _ => False) g ∨ w.heap.size ≤ g)) (n0 := _) ⟨0, (home0 bs), Fp2, rfl, fr.sub ⟨rfl, rfl, rfl, rfl, trivial⟩, hF, hV, hL, H8, Nat.zero_le _, HI.home0 bs, (by simp [home0]), ap2_A_Fp2, ap2_C_Fp2, gA_Fp2⟩ ?_
    rintro n26 a w25 ⟨i, hd, FpX, rfl, fr, hF, hV, hL, HH, hi, hHI, hEl, ap2_A_FpX, ap2_C_FpX, gA_FpX⟩
    refine wp_seq ?_
    refine wp_seq ?_
    refine wp_region_lit ?_  -- region 5
    refine fx_val (v := .int .i64 ((i : Nat) : Int)) fr rfl rfl (by first | decide | simp) (x_move rfl (fr.ev rfl)) ?_
    clear fr a; intro a fr
    refine fx_val (v := .slice C l.length cc) fr rfl rfl (by first | decide | simp) (x_move rfl (fr.ev rfl)) ?_
    clear fr a; intro a fr
    refine fx_val (v := .int .i64 ((l.length : Nat) : Int)) fr rfl rfl (by first | decide | simp) (x_len Try.underlying23 rfl (fr.ev rfl)) ?_
    clear fr a; intro a fr
    refine fx_val (v := .bool (decide (((i : Nat) : Int) < ((l.length : Nat) : Int)))) fr rfl rfl (by first | decide | simp) (x_lss rfl (fr.ev rfl) (fr.ev rfl) rfl) ?_
    clear fr a; intro a fr
    refine wpList_nil ?_
    refine fx_next ?_
    refine fx_cond fr rfl (fun hc27 => ?_) (fun hc27 => ?_)
    · skip
      have hc27 := of_decide_eq_true hc27
      refine wp_skip ?_
      refine fx_next ?_
      refine wp_seq ?_
      refine wp_block ?_
      refine wp_seq ?_
      refine wp_region_lit ?_  -- region 7
      refine fx_val (v := .pointer (some ⟨hb1, 0, none⟩)) fr rfl rfl (by first | decide | simp) (x_move rfl (fr.ev rfl)) ?_
      clear fr a; intro a fr
      refine fx_call fr rfl rfl (by first | decide | simp) (x_call (vs := [.pointer (some ⟨hb1, 0, none⟩)]) rfl rfl ⟨(fr.ev rfl), trivial⟩ Try.func18 nm18 rfl) (copy_h HH (hHI.all (by omega))) ?_
      clear fr a
      rintro v w32 ⟨hb28, Fp29, rfl, H30, hf31, hN33⟩ a fr
      have ap2_A_Fp29 : ∀ k, inA A k → Fp29 k → False := symP (new_apart2P hf31 fun _ hg => hV.lt hg)
      have ap2_C_Fp29 : ∀ k, inA C k → Fp29 k → False := symP (new_apart2P hf31 fun _ hg => hL.lt hg)
      have ap2_FpX_Fp29 : ∀ k, FpX k → Fp29 k → False := symP (new_apart2P hf31 fun _ hg => HH.lt hg)
      have gA_Fp29 := gA_newP hF hf31
      have gN_Fp29 := fun g (hg : Fp29 g) => Nat.le_trans hF.size (hf31 g hg)
      replace hV := hV.new hN33
      replace hL := hL.new hN33
      replace HH := HH.new hN33
      replace hF := hF.trNew hN33
      refine fx_val (v := .pointer (some ⟨hb28, 0, none⟩)) fr rfl rfl (by first | decide | simp) (x_assign rfl (fr.ev rfl)) ?_
      clear fr a; intro a fr
      refine wpList_nil ?_
      refine fx_next ?_
      refine wp_seq ?_
      obtain ⟨k, hk, hkl⟩ := modF_nat ((l.getD i msg0).line % 8) hd.E.length (by omega)
      refine fx_heldT (n := 11) (k := 11) (fun w => View byE w A cap bs ∧ View msgE w C cc l ∧ HomeAt w FpX hb1 hd ∧ HomeAt w Fp29 hb28 hd ∧ True) (by kernel_rfl) (by kernel_rfl) rfl ?_  -- region 8
      intro w34 hN35
      replace hV := hV.new hN35
      replace hL := hL.new hN35
      replace HH := HH.new hN35
      replace H30 := H30.new hN35
      replace hF := hF.trNew hN35
      refine fx_take (i := 0) (v := .slice C l.length cc) fr rfl (by kernel_rfl) rfl rfl (by first | decide | simp) (fun _ _ _ h => h) (fun _ ⟨hV, hL, HH, H30, _⟩ => x_move rfl (fr.ev rfl)) ⟨hV, hL, HH, H30, trivial⟩ ?_
      clear fr a; intro a fr
      refine fx_take (i := 1) (v := .int .i64 ((i : Nat) : Int)) fr rfl (by kernel_rfl) rfl rfl (by first | decide | simp) (fun _ _ _ h => h) (fun _ ⟨hV, hL, HH, H30, _⟩ => x_move rfl (fr.ev rfl)) ⟨hV, hL, HH, H30, trivial⟩ ?_
      clear fr a; intro a fr
      obtain ⟨g36, o37, hA38⟩ := (hL).some_ (by first | omega | decide)
      refine fx_take (i := 2) (v := .pointer (some ⟨g36, o37 + i * 20, none⟩)) fr rfl (by kernel_rfl) rfl rfl (by first | decide | simp) (fun _ _ _ h => h) (fun _ ⟨hV, hL, HH, H30, _⟩ => x_indexV Try.underlying23 sz36 rfl (fr.ev rfl) hA38 (fr.ev rfl) (by first | omega | decide) rfl) ⟨hV, hL, HH, H30, trivial⟩ ?_
      clear fr a; intro a fr
      refine fx_take (i := 3) (v := .pointer (some ⟨g36, o37 + i * 20 + 3, none⟩)) fr rfl (by kernel_rfl) rfl rfl (by first | decide | simp) (fun _ _ _ h => h) (fun _ ⟨hV, hL, HH, H30, _⟩ => x_fieldAddr fo36_3 rfl (fr.ev rfl) rfl) ⟨hV, hL, HH, H30, trivial⟩ ?_
      clear fr a; intro a fr
      refine fx_take (i := 4) (v := .int .u32 ((l.getD i msg0).line)) fr rfl (by kernel_rfl) rfl rfl (by first | decide | simp) (fun _ _ _ h => h) (fun _ ⟨hV, hL, HH, H30, _⟩ => x_load1 pl24 rfl (fr.ev rfl) (range_cell ((hL).elem hA38 i msg0 (by first | omega | decide)) 3 rfl rfl)) ⟨hV, hL, HH, H30, trivial⟩ ?_
      clear fr a; intro a fr
      refine fx_take (i := 5) (v := .int .u32 (((l.getD i msg0).line) % 8)) fr rfl (by kernel_rfl) rfl rfl (by first | decide | simp) (fun _ _ _ h => h) (fun _ ⟨hV, hL, HH, H30, _⟩ => x_rem rfl (fr.ev rfl) rfl (by decide) (rem_nn (by have := (l.getD i msg0).hn; omega))) ⟨hV, hL, HH, H30, trivial⟩ ?_
      clear fr a; intro a fr
      refine fx_take (i := 6) (v := .int .i64 (((l.getD i msg0).line) % 8)) fr rfl (by kernel_rfl) rfl rfl (by first | decide | simp) (fun _ _ _ h => h) (fun _ ⟨hV, hL, HH, H30, _⟩ => x_convert Try.underlying24 Try.underlying3 rfl (fr.ev rfl) (i64w (r := ((l.getD i msg0).line) % 8) rfl (by have := (l.getD i msg0).hn; omega))) ⟨hV, hL, HH, H30, trivial⟩ ?_
      clear fr a; intro a fr
      refine fx_take (i := 7) (v := .pointer (some ⟨hb1, 0, none⟩)) fr rfl (by kernel_rfl) rfl rfl (by first | decide | simp) (fun _ _ _ h => h) (fun _ ⟨hV, hL, HH, H30, _⟩ => x_move rfl (fr.ev rfl)) ⟨hV, hL, HH, H30, trivial⟩ ?_
      clear fr a; intro a fr
      refine fx_one (i := 8) (by kernel_rfl) (fx_op rfl ?_)
      refine fx_call fr rfl rfl (by first | decide | simp) (x_call (vs := [.pointer (some ⟨hb1, 0, none⟩)]) rfl rfl ⟨(fr.ev rfl), trivial⟩ Try.func10 nm10 rfl) (lines_h HH) ?_
      clear fr a
      rintro v w9 ⟨rfl, hw9⟩ a fr
      obtain rfl := hw9.symm
      refine wpList_nil ?_
      refine ⟨⟨hV, hL, HH, H30, trivial⟩, ?_⟩
      refine fx_one (i := 9) (by kernel_rfl) (fx_op rfl ?_)
      refine fx_call fr rfl rfl (by first | decide | simp) (x_call (vs := [.int .i64 (((l.getD i msg0).line) % 8), .int .i64 ((hd.E.length : Nat) : Int)]) rfl rfl ⟨(fr.ev rfl), (fr.ev rfl), trivial⟩ Try.func15 nm15 rfl) (mod_p (((l.getD i msg0).line) % 8) hd.E.length (by omega) (by omega) _) ?_
      clear fr a
      rintro v w9 ⟨rfl, hw9⟩ a fr
      obtain rfl := hw9.symm
      refine wpList_nil ?_
      refine ⟨⟨hV, hL, HH, H30, trivial⟩, ?_⟩
      refine fx_take (i := 10) (v := .int .u32 ((k : Nat) : Int)) fr rfl (by kernel_rfl) rfl rfl (by first | decide | simp) (fun _ _ _ h => h) (fun _ ⟨hV, hL, HH, H30, _⟩ => x_convert Try.underlying3 Try.underlying24 rfl (fr.ev rfl) (u32w (r := ((k : Nat) : Int)) hk (by omega))) ⟨hV, hL, HH, H30, trivial⟩ ?_
      clear fr a; intro a fr
      refine fx_hdone (by kernel_rfl) ?_
      refine fx_tail ?_
      refine fx_val (v := .int .u32 ((k : Nat) : Int)) fr rfl rfl (by first | decide | simp) (x_assign rfl (fr.ev rfl)) ?_
      clear fr a; intro a fr
      refine wpList_nil ?_
      refine fx_next ?_
      refine wp_seq ?_
      refine wp_region_lit ?_  -- region 9
      refine fx_val (v := .pointer (some ⟨hb28, 0, none⟩)) fr rfl rfl (by first | decide | simp) (x_move rfl (fr.ev rfl)) ?_
      clear fr a; intro a fr
      refine fx_val (v := .int .u32 ((k : Nat) : Int)) fr rfl rfl (by first | decide | simp) (x_move rfl (fr.ev rfl)) ?_
      clear fr a; intro a fr
      refine fx_call fr rfl rfl (by first | decide | simp) (x_call (vs := [.pointer (some ⟨hb28, 0, none⟩), .int .u32 ((k : Nat) : Int)]) rfl rfl ⟨(fr.ev rfl), (fr.ev rfl), trivial⟩ Try.func13 nm13 rfl) (entry_h H30 ((k : Nat) : Int) (by omega) (by omega) (hHI.all (by omega) _)) ?_
      clear fr a
      rintro v w47 ⟨Q43, qc44, rfl, OQ45, hA46, hN48⟩ a fr
      have ap2_A_Q43 : Apart2 A Q43 := (new_apart2 hA46 fun _ hg => hV.lt hg).symm
      have ap2_C_Q43 : Apart2 C Q43 := (new_apart2 hA46 fun _ hg => hL.lt hg).symm
      have ap2_FpX_Q43 : ∀ k, FpX k → inA Q43 k → False := symP (new_apart2P hA46 fun _ hg => HH.lt hg)
      have ap2_Fp29_Q43 : ∀ k, Fp29 k → inA Q43 k → False := symP (new_apart2P hA46 fun _ hg => H30.lt hg)
      have gA_Q43 := gA_new hF hA46
      have gN_Q43 := fun g (hg : inA Q43 g) => Nat.le_trans hF.size (hA46 g hg)
      replace hV := hV.new hN48
      replace hL := hL.new hN48
      replace HH := HH.new hN48
      replace H30 := H30.new hN48
      replace hF := hF.trNew hN48
      refine fx_val (v := .tuple #[.agg (entA (entOf hd.E ((k : Nat) : Int).toNat) (.slice Q43 ((entOf hd.E ((k : Nat) : Int).toNat).q.length) qc44)), .int .i64 0]) fr rfl rfl (by first | decide | simp) (x_move rfl (fr.ev rfl)) ?_
      clear fr a; intro a fr
      refine fx_val (v := .agg (entA (entOf hd.E ((k : Nat) : Int).toNat) (.slice Q43 ((entOf hd.E ((k : Nat) : Int).toNat).q.length) qc44))) fr rfl rfl (by first | decide | simp) (x_extract rfl (fr.ev rfl) rfl) ?_
      clear fr a; intro a fr
      refine fx_val (v := .int .i64 0) fr rfl rfl (by first | decide | simp) (x_extract rfl (fr.ev rfl) rfl) ?_
      clear fr a; intro a fr
      refine fx_new fr rfl rfl (by first | decide | simp) (x_alloc (z := .agg (#[.int .i64 0, .bool false, .bool false, .bool false, .bool false, .bool false, .int .i64 0, .int .i64 0, .int .i64 0, .bool false, .slice none 0 0])) (cs := #[.int .i64 0, .bool false, .bool false, .bool false, .bool false, .bool false, .int .i64 0, .int .i64 0, .int .i64 0, .bool false, .slice none 0 0]) rfl (by kernel_rfl) rfl) ?_
      clear fr a
      intro b49 w50 hN51 B52 hb53 a fr
      have ap_A_b49 : Apart A b49 := hV.apart hb53
      have ap_C_b49 : Apart C b49 := hL.apart hb53
      have ap_FpX_b49 : ¬ FpX b49 := HH.apart hb53
      have ap_Fp29_b49 : ¬ Fp29 b49 := H30.apart hb53
      have ap_Q43_b49 : Apart Q43 b49 := OQ45.apart hb53
      have g_b49 := Nat.le_trans hF.size hb53
      replace hV := hV.new hN51
      replace hL := hL.new hN51
      replace HH := HH.new hN51
      replace H30 := H30.new hN51
      replace OQ45 := OQ45.new hN51
      replace hF := hF.trNew hN51
      refine fx_storeS sz42 rfl rfl rfl (fr.ev rfl) (fr.ev rfl) (ent_all _ _ _ _) B52 rfl rfl fun w54 hO55 hBq => ?_
      replace hV := hV.only hO55 (Apart.ne1 ap_A_b49)
      replace hL := hL.only hO55 (Apart.ne1 ap_C_b49)
      replace HH := HH.only hO55 (ne1P ap_FpX_b49)
      replace H30 := H30.only hO55 (ne1P ap_Fp29_b49)
      replace OQ45 := OQ45.only hO55 (Apart.ne1 ap_Q43_b49)
      replace hF := hF.loc hO55 (.inr g_b49)
      replace B52 := hBq
      clear hBq
      refine fx_val (v := .int .i64 0) fr rfl rfl (by first | decide | simp) (x_assign rfl (fr.ev rfl)) ?_
      clear fr a; intro a fr
      refine wpList_nil ?_
      refine fx_next ?_
      refine wp_seq ?_
      refine wp_region_lit ?_  -- region 10
      refine fx_val (v := .pointer (some ⟨hb1, 0, none⟩)) fr rfl rfl (by first | decide | simp) (x_move rfl (fr.ev rfl)) ?_
      clear fr a; intro a fr
      refine fx_val (v := .slice C l.length cc) fr rfl rfl (by first | decide | simp) (x_move rfl (fr.ev rfl)) ?_
      clear fr a; intro a fr
      refine fx_val (v := .int .i64 ((i : Nat) : Int)) fr rfl rfl (by first | decide | simp) (x_move rfl (fr.ev rfl)) ?_
      clear fr a; intro a fr
      refine fx_val (v := .pointer (some ⟨g36, o37 + i * 20, none⟩)) fr rfl rfl (by first | decide | simp) (x_indexV Try.underlying23 sz36 rfl (fr.ev rfl) hA38 (fr.ev rfl) (by first | omega | decide) rfl) ?_
      clear fr a; intro a fr
      refine fx_val (v := .agg (msgE.arr (l.getD i msg0))) fr rfl rfl (by first | decide | simp) (x_loadE (E := msgE) ag36 rfl rfl (fr.ev rfl) ((hL).elem hA38 i msg0 (by omega))) ?_
      clear fr a; intro a fr
      refine fx_call fr rfl rfl (by first | decide | simp) (x_call (vs := [.pointer (some ⟨hb1, 0, none⟩), .agg (msgE.arr (l.getD i msg0))]) rfl rfl ⟨(fr.ev rfl), (fr.ev rfl), trivial⟩ Try.func12 nm12 rfl) (take_c HH (l.getD i msg0) (hHI.ok (by omega))) ?_
      clear fr a
      rintro v w64 ⟨A56, ac57, Fp58, rfl, O59, hA60, H61, hs62, hi63, hN65⟩ a fr
      clear HH
      have ap2_Fp58_A : ∀ k, Fp58 k → inA A k → False := moved_apart2P hi63 (symP ap2_A_FpX) fun _ hg => hV.lt hg
      have ap2_A_A56 : Apart2 A A56 := (new_apart2 hA60 fun _ hg => hV.lt hg).symm
      have ap2_Fp58_C : ∀ k, Fp58 k → inA C k → False := moved_apart2P hi63 (symP ap2_C_FpX) fun _ hg => hL.lt hg
      have ap2_C_A56 : Apart2 C A56 := (new_apart2 hA60 fun _ hg => hL.lt hg).symm
      have ap2_Fp58_Fp29 : ∀ k, Fp58 k → Fp29 k → False := moved_apart2P hi63 ap2_FpX_Fp29 fun _ hg => H30.lt hg
      have ap2_Fp29_A56 : ∀ k, Fp29 k → inA A56 k → False := symP (new_apart2P hA60 fun _ hg => H30.lt hg)
      have ap2_Fp58_Q43 : ∀ k, Fp58 k → inA Q43 k → False := moved_apart2P hi63 ap2_FpX_Q43 fun _ hg => OQ45.lt hg
      have ap2_Q43_A56 : Apart2 Q43 A56 := (new_apart2 hA60 fun _ hg => OQ45.lt hg).symm
      have ap_Fp58_b49 : ¬ Fp58 b49 := moved_apartP hi63 ap_FpX_b49 B52.lt
      have ap_A56_b49 : Apart A56 b49 := new_apart hA60 B52.lt
      have ap2_Fp58_A56 : ∀ k, Fp58 k → inA A56 k → False := hs62
      have gA_Fp58 := gA_movedP hF hi63 gA_FpX
      have gA_A56 := gA_new hF hA60
      replace hV := hV.only hN65 (fun g h1 h2 => ap2_A_FpX g h1 h2)
      replace hL := hL.only hN65 (fun g h1 h2 => ap2_C_FpX g h1 h2)
      replace H30 := H30.only hN65 (fun g h1 h2 => (symP ap2_FpX_Fp29) g h1 h2)
      replace OQ45 := OQ45.only hN65 (fun g h1 h2 => (symP ap2_FpX_Q43) g h1 h2)
      replace B52 := B52.only hN65 ap_FpX_b49
      replace hF := hF.locP hN65 gA_FpX
      refine fx_val (v := .tuple #[.slice A56 ((takeH hd (l.getD i msg0)).2.1.length) ac57, .int .i64 ((takeH hd (l.getD i msg0)).2.2)]) fr rfl rfl (by first | decide | simp) (x_move rfl (fr.ev rfl)) ?_
      clear fr a; intro a fr
      refine fx_val (v := .slice A56 ((takeH hd (l.getD i msg0)).2.1.length) ac57) fr rfl rfl (by first | decide | simp) (x_extract rfl (fr.ev rfl) rfl) ?_
      clear fr a; intro a fr
      refine fx_val (v := .int .i64 ((takeH hd (l.getD i msg0)).2.2)) fr rfl rfl (by first | decide | simp) (x_extract rfl (fr.ev rfl) rfl) ?_
      clear fr a; intro a fr
      refine fx_val (v := .slice A56 ((takeH hd (l.getD i msg0)).2.1.length) ac57) fr rfl rfl (by first | decide | simp) (x_assign rfl (fr.ev rfl)) ?_
      clear fr a; intro a fr
      refine fx_val (v := .int .i64 ((takeH hd (l.getD i msg0)).2.2)) fr rfl rfl (by first | decide | simp) (x_assign rfl (fr.ev rfl)) ?_
      clear fr a; intro a fr
      refine wpList_nil ?_
      refine fx_next ?_
      refine wp_seq ?_
      have hHI2 := hHI.take (l.getD i msg0)
      have hTl := take_len hd (l.getD i msg0)
      have href := take_refused (h := hd) (m := (l.getD i msg0))
      generalize takeH hd (l.getD i msg0) = T9 at *
      refine wp_region_lit ?_  -- region 11
      refine fx_val (v := .pointer (some ⟨hb28, 0, none⟩)) fr rfl rfl (by first | decide | simp) (x_move rfl (fr.ev rfl)) ?_
      clear fr a; intro a fr
      refine fx_val (v := .int .u32 ((k : Nat) : Int)) fr rfl rfl (by first | decide | simp) (x_move rfl (fr.ev rfl)) ?_
      clear fr a; intro a fr
      refine fx_call fr rfl rfl (by first | decide | simp) (x_call (vs := [.pointer (some ⟨hb28, 0, none⟩), .int .u32 ((k : Nat) : Int)]) rfl rfl ⟨(fr.ev rfl), (fr.ev rfl), trivial⟩ Try.func13 nm13 rfl) (entry_h H30 ((k : Nat) : Int) (by omega) (by omega) (hHI.all (by omega) _)) ?_
      clear fr a
      rintro v w70 ⟨Q66, qc67, rfl, OQ68, hA69, hN71⟩ a fr
      have ap2_A_Q66 : Apart2 A Q66 := (new_apart2 hA69 fun _ hg => hV.lt hg).symm
      have ap2_C_Q66 : Apart2 C Q66 := (new_apart2 hA69 fun _ hg => hL.lt hg).symm
      have ap2_Fp29_Q66 : ∀ k, Fp29 k → inA Q66 k → False := symP (new_apart2P hA69 fun _ hg => H30.lt hg)
      have ap2_Q43_Q66 : Apart2 Q43 Q66 := (new_apart2 hA69 fun _ hg => OQ45.lt hg).symm
      have ap_Q66_b49 : Apart Q66 b49 := new_apart hA69 B52.lt
      have ap2_Fp58_Q66 : ∀ k, Fp58 k → inA Q66 k → False := symP (new_apart2P hA69 fun _ hg => H61.lt hg)
      have ap2_A56_Q66 : Apart2 A56 Q66 := (new_apart2 hA69 fun _ hg => O59.lt hg).symm
      have gA_Q66 := gA_new hF hA69
      have gN_Q66 := fun g (hg : inA Q66 g) => Nat.le_trans hF.size (hA69 g hg)
      replace hV := hV.new hN71
      replace hL := hL.new hN71
      replace H30 := H30.new hN71
      replace OQ45 := OQ45.new hN71
      replace B52 := B52.new hN71
      replace H61 := H61.new hN71
      replace O59 := O59.new hN71
      replace hF := hF.trNew hN71
      refine fx_val (v := .tuple #[.agg (entA (entOf hd.E ((k : Nat) : Int).toNat) (.slice Q66 ((entOf hd.E ((k : Nat) : Int).toNat).q.length) qc67)), .int .i64 0]) fr rfl rfl (by first | decide | simp) (x_move rfl (fr.ev rfl)) ?_
      clear fr a; intro a fr
      refine fx_val (v := .agg (entA (entOf hd.E ((k : Nat) : Int).toNat) (.slice Q66 ((entOf hd.E ((k : Nat) : Int).toNat).q.length) qc67))) fr rfl rfl (by first | decide | simp) (x_extract rfl (fr.ev rfl) rfl) ?_
      clear fr a; intro a fr
      refine fx_val (v := .int .i64 0) fr rfl rfl (by first | decide | simp) (x_extract rfl (fr.ev rfl) rfl) ?_
      clear fr a; intro a fr
      refine fx_new fr rfl rfl (by first | decide | simp) (x_alloc (z := .agg (#[.int .i64 0, .bool false, .bool false, .bool false, .bool false, .bool false, .int .i64 0, .int .i64 0, .int .i64 0, .bool false, .slice none 0 0])) (cs := #[.int .i64 0, .bool false, .bool false, .bool false, .bool false, .bool false, .int .i64 0, .int .i64 0, .int .i64 0, .bool false, .slice none 0 0]) rfl (by kernel_rfl) rfl) ?_
      clear fr a
      intro b72 w73 hN74 B75 hb76 a fr
      have ap_A_b72 : Apart A b72 := hV.apart hb76
      have ap_C_b72 : Apart C b72 := hL.apart hb76
      have ap_Fp29_b72 : ¬ Fp29 b72 := H30.apart hb76
      have ap_Q43_b72 : Apart Q43 b72 := OQ45.apart hb76
      have ne_b49_b72 : NE b49 b72 := NE.mk (Nat.lt_of_lt_of_le B52.lt hb76)
      have ap_Fp58_b72 : ¬ Fp58 b72 := H61.apart hb76
      have ap_A56_b72 : Apart A56 b72 := O59.apart hb76
      have ap_Q66_b72 : Apart Q66 b72 := OQ68.apart hb76
      have g_b72 := Nat.le_trans hF.size hb76
      replace hV := hV.new hN74
      replace hL := hL.new hN74
      replace H30 := H30.new hN74
      replace OQ45 := OQ45.new hN74
      replace B52 := B52.new hN74
      replace H61 := H61.new hN74
      replace O59 := O59.new hN74
      replace OQ68 := OQ68.new hN74
      replace hF := hF.trNew hN74
      refine fx_storeS sz42 rfl rfl rfl (fr.ev rfl) (fr.ev rfl) (ent_all _ _ _ _) B75 rfl rfl fun w77 hO78 hBq => ?_
      replace hV := hV.only hO78 (Apart.ne1 ap_A_b72)
      replace hL := hL.only hO78 (Apart.ne1 ap_C_b72)
      replace H30 := H30.only hO78 (ne1P ap_Fp29_b72)
      replace OQ45 := OQ45.only hO78 (Apart.ne1 ap_Q43_b72)
      replace B52 := B52.only hO78 (by first | exact ne_b49_b72 | exact ne_b72_b49.symm | (show ¬ b49 = b72; omega))
      replace H61 := H61.only hO78 (ne1P ap_Fp58_b72)
      replace O59 := O59.only hO78 (Apart.ne1 ap_A56_b72)
      replace OQ68 := OQ68.only hO78 (Apart.ne1 ap_Q66_b72)
      replace hF := hF.loc hO78 (.inr g_b72)
      replace B75 := hBq
      clear hBq
      refine fx_val (v := .int .i64 0) fr rfl rfl (by first | decide | simp) (x_assign rfl (fr.ev rfl)) ?_
      clear fr a; intro a fr
      refine wpList_nil ?_
      refine fx_next ?_
      refine wp_seq ?_
      refine wp_seq ?_
      refine wp_region_lit ?_  -- region 12
      refine fx_val (v := .int .i64 0) fr rfl rfl (by first | decide | simp) (x_move rfl (fr.ev rfl)) ?_
      clear fr a; intro a fr
      refine fx_val (v := .bool false) fr rfl rfl (by first | decide | simp) (x_neq rfl (fr.ev rfl) rfl rfl) ?_
      clear fr a; intro a fr
      refine fx_val (v := .bool false) fr rfl rfl (by first | decide | simp) (x_move rfl (fr.ev rfl)) ?_
      clear fr a; intro a fr
      refine fx_val (v := .agg (entA (entOf hd.E ((k : Nat) : Int).toNat) (.slice Q43 ((entOf hd.E ((k : Nat) : Int).toNat).q.length) qc44))) fr (fr.want rfl rfl rfl) rfl (by first | decide | simp) (x_loadS ag42 rfl (fr.ev rfl) rfl B52.range) ?_
      clear fr a; intro a fr
      refine fx_val (v := .agg (entA (entOf hd.E ((k : Nat) : Int).toNat) (.slice Q66 ((entOf hd.E ((k : Nat) : Int).toNat).q.length) qc67))) fr (fr.want rfl rfl rfl) rfl (by first | decide | simp) (x_loadS ag42 rfl (fr.ev rfl) rfl B75.range) ?_
      clear fr a; intro a fr
      refine fx_call fr (fr.want rfl rfl rfl) rfl (by first | decide | simp) (x_call (vs := [.agg (entA (entOf hd.E ((k : Nat) : Int).toNat) (.slice Q43 ((entOf hd.E ((k : Nat) : Int).toNat).q.length) qc44)), .agg (entA (entOf hd.E ((k : Nat) : Int).toNat) (.slice Q66 ((entOf hd.E ((k : Nat) : Int).toNat).q.length) qc67))]) rfl rfl ⟨(fr.ev rfl), (fr.ev rfl), trivial⟩ Try.func14 nm14 rfl) (sament_c (d := (entOf hd.E ((k : Nat) : Int).toNat)) (e := (entOf hd.E ((k : Nat) : Int).toNat)) (OQ45.view) (OQ68.view)) ?_
      clear fr a
      rintro v w79 ⟨rfl, hN80⟩ a fr
      replace hV := hV.new hN80
      replace hL := hL.new hN80
      replace H30 := H30.new hN80
      replace OQ45 := OQ45.new hN80
      replace B52 := B52.new hN80
      replace H61 := H61.new hN80
      replace O59 := O59.new hN80
      replace OQ68 := OQ68.new hN80
      replace B75 := B75.new hN80
      replace hF := hF.trNew hN80
      rw [show decide ((entOf hd.E ((k : Nat) : Int).toNat) = (entOf hd.E ((k : Nat) : Int).toNat)) = true from decide_eq_true rfl] at fr
      refine fx_val (v := .bool false) fr (fr.want rfl rfl rfl) rfl (by first | decide | simp) (x_not rfl (fr.ev rfl) rfl) ?_
      clear fr a; intro a fr
      refine fx_val (v := .bool false) fr rfl rfl (by first | decide | simp) (x_pick_f rfl (fr.ev rfl) (fr.ev rfl)) ?_
      clear fr a; intro a fr
      refine wpList_nil ?_
      refine fx_next ?_
      refine fx_cond_f fr rfl ?_
      refine wp_skip ?_
      refine fx_next ?_
      refine wp_seq ?_
      refine wp_region_lit ?_  -- region 14
      refine fx_val (v := .pointer (some ⟨hb1, 0, none⟩)) fr rfl rfl (by first | decide | simp) (x_move rfl (fr.ev rfl)) ?_
      clear fr a; intro a fr
      refine fx_val (v := .int .u32 ((k : Nat) : Int)) fr rfl rfl (by first | decide | simp) (x_move rfl (fr.ev rfl)) ?_
      clear fr a; intro a fr
      refine fx_call fr rfl rfl (by first | decide | simp) (x_call (vs := [.pointer (some ⟨hb1, 0, none⟩), .int .u32 ((k : Nat) : Int)]) rfl rfl ⟨(fr.ev rfl), (fr.ev rfl), trivial⟩ Try.func13 nm13 rfl) (entry_h H61 ((k : Nat) : Int) (by omega) (by omega) (hHI2.all (by omega) _)) ?_
      clear fr a
      rintro v w85 ⟨Q81, qc82, rfl, OQ83, hA84, hN86⟩ a fr
      have ap2_A_Q81 : Apart2 A Q81 := (new_apart2 hA84 fun _ hg => hV.lt hg).symm
      have ap2_C_Q81 : Apart2 C Q81 := (new_apart2 hA84 fun _ hg => hL.lt hg).symm
      have ap2_Fp29_Q81 : ∀ k, Fp29 k → inA Q81 k → False := symP (new_apart2P hA84 fun _ hg => H30.lt hg)
      have ap2_Q43_Q81 : Apart2 Q43 Q81 := (new_apart2 hA84 fun _ hg => OQ45.lt hg).symm
      have ap_Q81_b49 : Apart Q81 b49 := new_apart hA84 B52.lt
      have ap2_Fp58_Q81 : ∀ k, Fp58 k → inA Q81 k → False := symP (new_apart2P hA84 fun _ hg => H61.lt hg)
      have ap2_A56_Q81 : Apart2 A56 Q81 := (new_apart2 hA84 fun _ hg => O59.lt hg).symm
      have ap2_Q66_Q81 : Apart2 Q66 Q81 := (new_apart2 hA84 fun _ hg => OQ68.lt hg).symm
      have ap_Q81_b72 : Apart Q81 b72 := new_apart hA84 B75.lt
      have gA_Q81 := gA_new hF hA84
      have gN_Q81 := fun g (hg : inA Q81 g) => Nat.le_trans hF.size (hA84 g hg)
      replace hV := hV.new hN86
      replace hL := hL.new hN86
      replace H30 := H30.new hN86
      replace OQ45 := OQ45.new hN86
      replace B52 := B52.new hN86
      replace H61 := H61.new hN86
      replace O59 := O59.new hN86
      replace OQ68 := OQ68.new hN86
      replace B75 := B75.new hN86
      replace hF := hF.trNew hN86
      refine fx_val (v := .tuple #[.agg (entA (entOf T9.1.E ((k : Nat) : Int).toNat) (.slice Q81 ((entOf T9.1.E ((k : Nat) : Int).toNat).q.length) qc82)), .int .i64 0]) fr rfl rfl (by first | decide | simp) (x_move rfl (fr.ev rfl)) ?_
      clear fr a; intro a fr
      refine fx_val (v := .agg (entA (entOf T9.1.E ((k : Nat) : Int).toNat) (.slice Q81 ((entOf T9.1.E ((k : Nat) : Int).toNat).q.length) qc82))) fr rfl rfl (by first | decide | simp) (x_extract rfl (fr.ev rfl) rfl) ?_
      clear fr a; intro a fr
      refine fx_val (v := .int .i64 0) fr rfl rfl (by first | decide | simp) (x_extract rfl (fr.ev rfl) rfl) ?_
      clear fr a; intro a fr
      refine fx_new fr rfl rfl (by first | decide | simp) (x_alloc (z := .agg (#[.int .i64 0, .bool false, .bool false, .bool false, .bool false, .bool false, .int .i64 0, .int .i64 0, .int .i64 0, .bool false, .slice none 0 0])) (cs := #[.int .i64 0, .bool false, .bool false, .bool false, .bool false, .bool false, .int .i64 0, .int .i64 0, .int .i64 0, .bool false, .slice none 0 0]) rfl (by kernel_rfl) rfl) ?_
      clear fr a
      intro b87 w88 hN89 B90 hb91 a fr
      have ap_A_b87 : Apart A b87 := hV.apart hb91
      have ap_C_b87 : Apart C b87 := hL.apart hb91
      have ap_Fp29_b87 : ¬ Fp29 b87 := H30.apart hb91
      have ap_Q43_b87 : Apart Q43 b87 := OQ45.apart hb91
      have ne_b49_b87 : NE b49 b87 := NE.mk (Nat.lt_of_lt_of_le B52.lt hb91)
      have ap_Fp58_b87 : ¬ Fp58 b87 := H61.apart hb91
      have ap_A56_b87 : Apart A56 b87 := O59.apart hb91
      have ap_Q66_b87 : Apart Q66 b87 := OQ68.apart hb91
      have ne_b72_b87 : NE b72 b87 := NE.mk (Nat.lt_of_lt_of_le B75.lt hb91)
      have ap_Q81_b87 : Apart Q81 b87 := OQ83.apart hb91
      have g_b87 := Nat.le_trans hF.size hb91
      replace hV := hV.new hN89
      replace hL := hL.new hN89
      replace H30 := H30.new hN89
      replace OQ45 := OQ45.new hN89
      replace B52 := B52.new hN89
      replace H61 := H61.new hN89
      replace O59 := O59.new hN89
      replace OQ68 := OQ68.new hN89
      replace B75 := B75.new hN89
      replace OQ83 := OQ83.new hN89
      replace hF := hF.trNew hN89
      refine fx_storeS sz42 rfl rfl rfl (fr.ev rfl) (fr.ev rfl) (ent_all _ _ _ _) B90 rfl rfl fun w92 hO93 hBq => ?_
      replace hV := hV.only hO93 (Apart.ne1 ap_A_b87)
      replace hL := hL.only hO93 (Apart.ne1 ap_C_b87)
      replace H30 := H30.only hO93 (ne1P ap_Fp29_b87)
      replace OQ45 := OQ45.only hO93 (Apart.ne1 ap_Q43_b87)
      replace B52 := B52.only hO93 (by first | exact ne_b49_b87 | exact ne_b87_b49.symm | (show ¬ b49 = b87; omega))
      replace H61 := H61.only hO93 (ne1P ap_Fp58_b87)
      replace O59 := O59.only hO93 (Apart.ne1 ap_A56_b87)
      replace OQ68 := OQ68.only hO93 (Apart.ne1 ap_Q66_b87)
      replace B75 := B75.only hO93 (by first | exact ne_b72_b87 | exact ne_b87_b72.symm | (show ¬ b72 = b87; omega))
      replace OQ83 := OQ83.only hO93 (Apart.ne1 ap_Q81_b87)
      replace hF := hF.loc hO93 (.inr g_b87)
      replace B90 := hBq
      clear hBq
      refine fx_val (v := .int .i64 0) fr rfl rfl (by first | decide | simp) (x_assign rfl (fr.ev rfl)) ?_
      clear fr a; intro a fr
      refine wpList_nil ?_
      refine fx_next ?_
      refine wp_seq ?_
      obtain ⟨hEI, hNQ, -⟩ := hHI2.2 ((k : Nat) : Int).toNat (by omega)
      have hown := hEI.ok.own
      have ho1 : ¬ (entOf T9.1.E ((k : Nat) : Int).toNat).o < (-1) := by omega
      have ho4 : ¬ 4 ≤ (entOf T9.1.E ((k : Nat) : Int).toNat).o := by omega
      rcases (show (0 ≤ (entOf T9.1.E ((k : Nat) : Int).toNat).o ∨ ¬ 0 ≤ (entOf T9.1.E ((k : Nat) : Int).toNat).o) ∧ ((entOf T9.1.E ((k : Nat) : Int).toNat).busy = true ∨ (entOf T9.1.E ((k : Nat) : Int).toNat).busy = false) ∧ (T9.2.2 ≠ 0 ∨ ¬ T9.2.2 ≠ 0) from ⟨Decidable.em _, by cases (entOf T9.1.E ((k : Nat) : Int).toNat).busy <;> simp, Decidable.em _⟩) with ⟨ho | ho, hb | hb, he | he⟩
      · skip
        have hsh := hEI.apart ho
        have hDX : (entOf hd.E ((k : Nat) : Int).toNat) = (entOf T9.1.E ((k : Nat) : Int).toNat) := by rw [href he]
        refine wp_region_lit ?_  -- region 15
        refine fx_val (v := .pointer (some ⟨b87, 1, none⟩)) fr rfl rfl (by first | decide | simp) (x_fieldAddr fo42_1 rfl (fr.ev rfl) rfl) ?_
        clear fr a; intro a fr
        refine fx_val (v := .pointer (some ⟨b87, 1, none⟩)) fr rfl rfl (by first | decide | simp) (x_indexArr Try.underlying40 sz4 rfl (fr.ev rfl) (show _ = Value.int .i64 ((0 : Nat) : Int) from rfl) (by decide) (by decide)) ?_
        clear fr a; intro a fr
        refine fx_val (v := .bool false) fr rfl rfl (by first | decide | simp) (x_load1 pl4 rfl (fr.ev rfl) ((show _ = some (Value.bool (((entOf T9.1.E ((k : Nat) : Int).toNat).sh).a)) from (B90.cell 1 rfl)).trans (by rw [hsh]; rfl))) ?_
        clear fr a; intro a fr
        refine fx_val (v := .bool false) fr rfl rfl (by first | decide | simp) (x_move rfl (fr.ev rfl)) ?_
        clear fr a; intro a fr
        refine fx_val (v := .pointer (some ⟨b87, 1, none⟩)) fr (fr.want rfl rfl rfl) rfl (by first | decide | simp) (x_fieldAddr fo42_1 rfl (fr.ev rfl) rfl) ?_
        clear fr a; intro a fr
        refine fx_val (v := .pointer (some ⟨b87, 2, none⟩)) fr (fr.want rfl rfl rfl) rfl (by first | decide | simp) (x_indexArr Try.underlying40 sz4 rfl (fr.ev rfl) (show _ = Value.int .i64 ((1 : Nat) : Int) from rfl) (by decide) (by decide)) ?_
        clear fr a; intro a fr
        refine fx_val (v := .bool false) fr (fr.want rfl rfl rfl) rfl (by first | decide | simp) (x_load1 pl4 rfl (fr.ev rfl) ((show _ = some (Value.bool (((entOf T9.1.E ((k : Nat) : Int).toNat).sh).b)) from (B90.cell 2 rfl)).trans (by rw [hsh]; rfl))) ?_
        clear fr a; intro a fr
        refine fx_val (v := .bool false) fr rfl rfl (by first | decide | simp) (x_pick_f rfl (fr.ev rfl) (fr.ev rfl)) ?_
        clear fr a; intro a fr
        refine fx_val (v := .bool false) fr rfl rfl (by first | decide | simp) (x_move rfl (fr.ev rfl)) ?_
        clear fr a; intro a fr
        refine fx_val (v := .pointer (some ⟨b87, 1, none⟩)) fr (fr.want rfl rfl rfl) rfl (by first | decide | simp) (x_fieldAddr fo42_1 rfl (fr.ev rfl) rfl) ?_
        clear fr a; intro a fr
        refine fx_val (v := .pointer (some ⟨b87, 3, none⟩)) fr (fr.want rfl rfl rfl) rfl (by first | decide | simp) (x_indexArr Try.underlying40 sz4 rfl (fr.ev rfl) (show _ = Value.int .i64 ((2 : Nat) : Int) from rfl) (by decide) (by decide)) ?_
        clear fr a; intro a fr
        refine fx_val (v := .bool false) fr (fr.want rfl rfl rfl) rfl (by first | decide | simp) (x_load1 pl4 rfl (fr.ev rfl) ((show _ = some (Value.bool (((entOf T9.1.E ((k : Nat) : Int).toNat).sh).c)) from (B90.cell 3 rfl)).trans (by rw [hsh]; rfl))) ?_
        clear fr a; intro a fr
        refine fx_val (v := .bool false) fr rfl rfl (by first | decide | simp) (x_pick_f rfl (fr.ev rfl) (fr.ev rfl)) ?_
        clear fr a; intro a fr
        refine fx_val (v := .bool false) fr rfl rfl (by first | decide | simp) (x_move rfl (fr.ev rfl)) ?_
        clear fr a; intro a fr
        refine fx_val (v := .pointer (some ⟨b87, 1, none⟩)) fr (fr.want rfl rfl rfl) rfl (by first | decide | simp) (x_fieldAddr fo42_1 rfl (fr.ev rfl) rfl) ?_
        clear fr a; intro a fr
        refine fx_val (v := .pointer (some ⟨b87, 4, none⟩)) fr (fr.want rfl rfl rfl) rfl (by first | decide | simp) (x_indexArr Try.underlying40 sz4 rfl (fr.ev rfl) (show _ = Value.int .i64 ((3 : Nat) : Int) from rfl) (by decide) (by decide)) ?_
        clear fr a; intro a fr
        refine fx_val (v := .bool false) fr (fr.want rfl rfl rfl) rfl (by first | decide | simp) (x_load1 pl4 rfl (fr.ev rfl) ((show _ = some (Value.bool (((entOf T9.1.E ((k : Nat) : Int).toNat).sh).d)) from (B90.cell 4 rfl)).trans (by rw [hsh]; rfl))) ?_
        clear fr a; intro a fr
        refine fx_val (v := .bool false) fr rfl rfl (by first | decide | simp) (x_pick_f rfl (fr.ev rfl) (fr.ev rfl)) ?_
        clear fr a; intro a fr
        refine fx_val (v := .bool false) fr rfl rfl (by first | decide | simp) (x_assign rfl (fr.ev rfl)) ?_
        clear fr a; intro a fr
        refine wpList_nil ?_
        refine fx_next ?_
        refine wp_seq ?_
        refine wp_region_lit ?_  -- region 16
        refine fx_val (v := .pointer (some ⟨b87, 0, none⟩)) fr rfl rfl (by first | decide | simp) (x_fieldAddr fo42_0 rfl (fr.ev rfl) rfl) ?_
        clear fr a; intro a fr
        refine fx_val (v := .int .i64 ((entOf T9.1.E ((k : Nat) : Int).toNat).o)) fr rfl rfl (by first | decide | simp) (x_load1 pl3 rfl (fr.ev rfl) (B90.cell 0 rfl)) ?_
        clear fr a; intro a fr
        refine fx_val (v := .bool true) fr rfl rfl (by first | decide | simp) (x_geq rfl (fr.ev rfl) rfl (decide_eq_true ho)) ?_
        clear fr a; intro a fr
        refine fx_val (v := .bool true) fr rfl rfl (by first | decide | simp) (x_move rfl (fr.ev rfl)) ?_
        clear fr a; intro a fr
        refine fx_val (v := .bool false) fr (fr.want rfl rfl rfl) rfl (by first | decide | simp) (x_move rfl (fr.ev rfl)) ?_
        clear fr a; intro a fr
        refine fx_val (v := .bool false) fr rfl rfl (by first | decide | simp) (x_pick_t rfl (fr.ev rfl) (fr.ev rfl)) ?_
        clear fr a; intro a fr
        refine fx_val (v := .bool false) fr rfl rfl (by first | decide | simp) (x_move rfl (fr.ev rfl)) ?_
        clear fr a; intro a fr
        refine fx_val (v := .pointer (some ⟨b87, 0, none⟩)) fr (fr.want rfl rfl rfl) rfl (by first | decide | simp) (x_fieldAddr fo42_0 rfl (fr.ev rfl) rfl) ?_
        clear fr a; intro a fr
        refine fx_val (v := .int .i64 ((entOf T9.1.E ((k : Nat) : Int).toNat).o)) fr (fr.want rfl rfl rfl) rfl (by first | decide | simp) (x_load1 pl3 rfl (fr.ev rfl) (B90.cell 0 rfl)) ?_
        clear fr a; intro a fr
        refine fx_val (v := .bool false) fr (fr.want rfl rfl rfl) rfl (by first | decide | simp) (x_lss rfl (fr.ev rfl) rfl (decide_eq_false ho1)) ?_
        clear fr a; intro a fr
        refine fx_val (v := .bool false) fr rfl rfl (by first | decide | simp) (x_pick_f rfl (fr.ev rfl) (fr.ev rfl)) ?_
        clear fr a; intro a fr
        refine fx_val (v := .bool false) fr rfl rfl (by first | decide | simp) (x_move rfl (fr.ev rfl)) ?_
        clear fr a; intro a fr
        refine fx_val (v := .pointer (some ⟨b87, 0, none⟩)) fr (fr.want rfl rfl rfl) rfl (by first | decide | simp) (x_fieldAddr fo42_0 rfl (fr.ev rfl) rfl) ?_
        clear fr a; intro a fr
        refine fx_val (v := .int .i64 ((entOf T9.1.E ((k : Nat) : Int).toNat).o)) fr (fr.want rfl rfl rfl) rfl (by first | decide | simp) (x_load1 pl3 rfl (fr.ev rfl) (B90.cell 0 rfl)) ?_
        clear fr a; intro a fr
        refine fx_val (v := .bool false) fr (fr.want rfl rfl rfl) rfl (by first | decide | simp) (x_geq rfl (fr.ev rfl) rfl (decide_eq_false ho4)) ?_
        clear fr a; intro a fr
        refine fx_val (v := .bool false) fr rfl rfl (by first | decide | simp) (x_pick_f rfl (fr.ev rfl) (fr.ev rfl)) ?_
        clear fr a; intro a fr
        refine fx_val (v := .bool false) fr rfl rfl (by first | decide | simp) (x_move rfl (fr.ev rfl)) ?_
        clear fr a; intro a fr
        refine fx_val (v := .pointer (some ⟨b87, 5, none⟩)) fr (fr.want rfl rfl rfl) rfl (by first | decide | simp) (x_fieldAddr fo42_2 rfl (fr.ev rfl) rfl) ?_
        clear fr a; intro a fr
        refine fx_val (v := .bool true) fr (fr.want rfl rfl rfl) rfl (by first | decide | simp) (x_load1 pl4 rfl (fr.ev rfl) ((show _ = some (Value.bool ((entOf T9.1.E ((k : Nat) : Int).toNat).busy)) from (B90.cell 5 rfl)).trans (by rw [hb]))) ?_
        clear fr a; intro a fr
        refine fx_val (v := .bool false) fr (fr.want rfl rfl rfl) rfl (by first | decide | simp) (x_not rfl (fr.ev rfl) rfl) ?_
        clear fr a; intro a fr
        refine fx_val (v := .bool false) fr (fr.want rfl rfl rfl) rfl (by first | decide | simp) (x_move rfl (fr.ev rfl)) ?_
        clear fr a; intro a fr
        refine fx_skip fr (fr.unwant rfl rfl rfl (by decide)) rfl (by first | decide | simp) ?_
        clear fr a; intro a fr
        refine fx_skip fr (fr.unwant rfl rfl rfl (by decide)) rfl (by first | decide | simp) ?_
        clear fr a; intro a fr
        refine fx_skip fr (fr.unwant rfl rfl rfl (by decide)) rfl (by first | decide | simp) ?_
        clear fr a; intro a fr
        refine fx_skip fr (fr.unwant rfl rfl rfl (by decide)) rfl (by first | decide | simp) ?_
        clear fr a; intro a fr
        refine fx_skip fr (fr.unwant_u rfl rfl rfl) rfl (by first | decide | simp) ?_
        clear fr a; intro a fr
        refine fx_skip fr (fr.unwant_u rfl rfl rfl) rfl (by first | decide | simp) ?_
        clear fr a; intro a fr
        refine fx_skip fr (fr.unwant rfl rfl rfl (by decide)) rfl (by first | decide | simp) ?_
        clear fr a; intro a fr
        refine fx_skip fr (fr.unwant rfl rfl rfl (by decide)) rfl (by first | decide | simp) ?_
        clear fr a; intro a fr
        refine fx_skip fr (fr.unwant_u rfl rfl rfl) rfl (by first | decide | simp) ?_
        clear fr a; intro a fr
        refine fx_skip fr (fr.unwant_u rfl rfl rfl) rfl (by first | decide | simp) ?_
        clear fr a; intro a fr
        refine fx_skip fr (fr.unwant_u rfl rfl rfl) rfl (by first | decide | simp) ?_
        clear fr a; intro a fr
        refine fx_skip fr (fr.unwant_u rfl rfl rfl) rfl (by first | decide | simp) ?_
        clear fr a; intro a fr
        refine fx_skip fr (fr.unwant rfl rfl rfl (by decide)) rfl (by first | decide | simp) ?_
        clear fr a; intro a fr
        refine fx_val (v := .bool false) fr (fr.want rfl rfl rfl) rfl (by first | decide | simp) (x_pick_f rfl (fr.ev rfl) rfl) ?_
        clear fr a; intro a fr
        refine fx_val (v := .bool false) fr rfl rfl (by first | decide | simp) (x_pick_f rfl (fr.ev rfl) (fr.ev rfl)) ?_
        clear fr a; intro a fr
        refine fx_val (v := .bool false) fr rfl rfl (by first | decide | simp) (x_move rfl (fr.ev rfl)) ?_
        clear fr a; intro a fr
        refine fx_val (v := .int .i64 T9.2.2) fr (fr.want rfl rfl rfl) rfl (by first | decide | simp) (x_move rfl (fr.ev rfl)) ?_
        clear fr a; intro a fr
        refine fx_val (v := .bool true) fr (fr.want rfl rfl rfl) rfl (by first | decide | simp) (x_neq rfl (fr.ev rfl) rfl (decide_eq_true he)) ?_
        clear fr a; intro a fr
        refine fx_val (v := .bool true) fr (fr.want rfl rfl rfl) rfl (by first | decide | simp) (x_move rfl (fr.ev rfl)) ?_
        clear fr a; intro a fr
        refine fx_val (v := .agg (entA (entOf hd.E ((k : Nat) : Int).toNat) (.slice Q43 ((entOf hd.E ((k : Nat) : Int).toNat).q.length) qc44))) fr (fr.want rfl rfl rfl) rfl (by first | decide | simp) (x_loadS ag42 rfl (fr.ev rfl) rfl B52.range) ?_
        clear fr a; intro a fr
        refine fx_val (v := .agg (entA (entOf T9.1.E ((k : Nat) : Int).toNat) (.slice Q81 ((entOf T9.1.E ((k : Nat) : Int).toNat).q.length) qc82))) fr (fr.want rfl rfl rfl) rfl (by first | decide | simp) (x_loadS ag42 rfl (fr.ev rfl) rfl B90.range) ?_
        clear fr a; intro a fr
        refine fx_call fr (fr.want rfl rfl rfl) rfl (by first | decide | simp) (x_call (vs := [.agg (entA (entOf hd.E ((k : Nat) : Int).toNat) (.slice Q43 ((entOf hd.E ((k : Nat) : Int).toNat).q.length) qc44)), .agg (entA (entOf T9.1.E ((k : Nat) : Int).toNat) (.slice Q81 ((entOf T9.1.E ((k : Nat) : Int).toNat).q.length) qc82))]) rfl rfl ⟨(fr.ev rfl), (fr.ev rfl), trivial⟩ Try.func14 nm14 rfl) (sament_c (d := (entOf hd.E ((k : Nat) : Int).toNat)) (e := (entOf T9.1.E ((k : Nat) : Int).toNat)) (OQ45.view) (OQ83.view)) ?_
        clear fr a
        rintro v w94 ⟨rfl, hN95⟩ a fr
        replace hV := hV.new hN95
        replace hL := hL.new hN95
        replace H30 := H30.new hN95
        replace OQ45 := OQ45.new hN95
        replace B52 := B52.new hN95
        replace H61 := H61.new hN95
        replace O59 := O59.new hN95
        replace OQ68 := OQ68.new hN95
        replace B75 := B75.new hN95
        replace OQ83 := OQ83.new hN95
        replace B90 := B90.new hN95
        replace hF := hF.trNew hN95
        rw [show decide ((entOf hd.E ((k : Nat) : Int).toNat) = (entOf T9.1.E ((k : Nat) : Int).toNat)) = true from decide_eq_true hDX] at fr
        refine fx_val (v := .bool false) fr (fr.want rfl rfl rfl) rfl (by first | decide | simp) (x_not rfl (fr.ev rfl) rfl) ?_
        clear fr a; intro a fr
        refine fx_val (v := .bool false) fr (fr.want rfl rfl rfl) rfl (by first | decide | simp) (x_pick_t rfl (fr.ev rfl) (fr.ev rfl)) ?_
        clear fr a; intro a fr
        refine fx_val (v := .bool false) fr rfl rfl (by first | decide | simp) (x_pick_f rfl (fr.ev rfl) (fr.ev rfl)) ?_
        clear fr a; intro a fr
        refine wpList_nil ?_
        refine fx_next ?_
        refine fx_cond_f fr rfl ?_
        refine wp_skip ?_
        refine fx_blk ?_
        refine fx_next ?_
        refine wp_region_lit ?_  -- region 6
        refine fx_val (v := .int .i64 ((i : Nat) : Int)) fr rfl rfl (by first | decide | simp) (x_move rfl (fr.ev rfl)) ?_
        clear fr a; intro a fr
        refine fx_val (v := .int .i64 ((i + 1 : Nat) : Int)) fr rfl rfl (by first | decide | simp) (x_add rfl (fr.ev rfl) rfl (i64w (r := ((i + 1 : Nat) : Int)) (by omega) (by omega))) ?_
        clear fr a; intro a fr
        refine fx_val (v := .int .i64 ((i + 1 : Nat) : Int)) fr rfl rfl (by first | decide | simp) (x_assign rfl (fr.ev rfl)) ?_
        clear fr a; intro a fr
        refine wpList_nil ?_
        refine fx_next ?_
        exact ⟨_, by omega, (i + 1), T9.1, Fp58, rfl, fr.sub ⟨rfl, rfl, rfl, rfl, trivial⟩, hF, hV, hL, H61, by omega, hHI2, hTl.trans hEl, (symP ap2_Fp58_A), (symP ap2_Fp58_C), gA_Fp58⟩
      · skip
        have hsh := hEI.apart ho
        refine wp_region_lit ?_  -- region 15
        refine fx_val (v := .pointer (some ⟨b87, 1, none⟩)) fr rfl rfl (by first | decide | simp) (x_fieldAddr fo42_1 rfl (fr.ev rfl) rfl) ?_
        clear fr a; intro a fr
        refine fx_val (v := .pointer (some ⟨b87, 1, none⟩)) fr rfl rfl (by first | decide | simp) (x_indexArr Try.underlying40 sz4 rfl (fr.ev rfl) (show _ = Value.int .i64 ((0 : Nat) : Int) from rfl) (by decide) (by decide)) ?_
        clear fr a; intro a fr
        refine fx_val (v := .bool false) fr rfl rfl (by first | decide | simp) (x_load1 pl4 rfl (fr.ev rfl) ((show _ = some (Value.bool (((entOf T9.1.E ((k : Nat) : Int).toNat).sh).a)) from (B90.cell 1 rfl)).trans (by rw [hsh]; rfl))) ?_
        clear fr a; intro a fr
        refine fx_val (v := .bool false) fr rfl rfl (by first | decide | simp) (x_move rfl (fr.ev rfl)) ?_
        clear fr a; intro a fr
        refine fx_val (v := .pointer (some ⟨b87, 1, none⟩)) fr (fr.want rfl rfl rfl) rfl (by first | decide | simp) (x_fieldAddr fo42_1 rfl (fr.ev rfl) rfl) ?_
        clear fr a; intro a fr
        refine fx_val (v := .pointer (some ⟨b87, 2, none⟩)) fr (fr.want rfl rfl rfl) rfl (by first | decide | simp) (x_indexArr Try.underlying40 sz4 rfl (fr.ev rfl) (show _ = Value.int .i64 ((1 : Nat) : Int) from rfl) (by decide) (by decide)) ?_
        clear fr a; intro a fr
        refine fx_val (v := .bool false) fr (fr.want rfl rfl rfl) rfl (by first | decide | simp) (x_load1 pl4 rfl (fr.ev rfl) ((show _ = some (Value.bool (((entOf T9.1.E ((k : Nat) : Int).toNat).sh).b)) from (B90.cell 2 rfl)).trans (by rw [hsh]; rfl))) ?_
        clear fr a; intro a fr
        refine fx_val (v := .bool false) fr rfl rfl (by first | decide | simp) (x_pick_f rfl (fr.ev rfl) (fr.ev rfl)) ?_
        clear fr a; intro a fr
        refine fx_val (v := .bool false) fr rfl rfl (by first | decide | simp) (x_move rfl (fr.ev rfl)) ?_
        clear fr a; intro a fr
        refine fx_val (v := .pointer (some ⟨b87, 1, none⟩)) fr (fr.want rfl rfl rfl) rfl (by first | decide | simp) (x_fieldAddr fo42_1 rfl (fr.ev rfl) rfl) ?_
        clear fr a; intro a fr
        refine fx_val (v := .pointer (some ⟨b87, 3, none⟩)) fr (fr.want rfl rfl rfl) rfl (by first | decide | simp) (x_indexArr Try.underlying40 sz4 rfl (fr.ev rfl) (show _ = Value.int .i64 ((2 : Nat) : Int) from rfl) (by decide) (by decide)) ?_
        clear fr a; intro a fr
        refine fx_val (v := .bool false) fr (fr.want rfl rfl rfl) rfl (by first | decide | simp) (x_load1 pl4 rfl (fr.ev rfl) ((show _ = some (Value.bool (((entOf T9.1.E ((k : Nat) : Int).toNat).sh).c)) from (B90.cell 3 rfl)).trans (by rw [hsh]; rfl))) ?_
        clear fr a; intro a fr
        refine fx_val (v := .bool false) fr rfl rfl (by first | decide | simp) (x_pick_f rfl (fr.ev rfl) (fr.ev rfl)) ?_
        clear fr a; intro a fr
        refine fx_val (v := .bool false) fr rfl rfl (by first | decide | simp) (x_move rfl (fr.ev rfl)) ?_
        clear fr a; intro a fr
        refine fx_val (v := .pointer (some ⟨b87, 1, none⟩)) fr (fr.want rfl rfl rfl) rfl (by first | decide | simp) (x_fieldAddr fo42_1 rfl (fr.ev rfl) rfl) ?_
        clear fr a; intro a fr
        refine fx_val (v := .pointer (some ⟨b87, 4, none⟩)) fr (fr.want rfl rfl rfl) rfl (by first | decide | simp) (x_indexArr Try.underlying40 sz4 rfl (fr.ev rfl) (show _ = Value.int .i64 ((3 : Nat) : Int) from rfl) (by decide) (by decide)) ?_
        clear fr a; intro a fr
        refine fx_val (v := .bool false) fr (fr.want rfl rfl rfl) rfl (by first | decide | simp) (x_load1 pl4 rfl (fr.ev rfl) ((show _ = some (Value.bool (((entOf T9.1.E ((k : Nat) : Int).toNat).sh).d)) from (B90.cell 4 rfl)).trans (by rw [hsh]; rfl))) ?_
        clear fr a; intro a fr
        refine fx_val (v := .bool false) fr rfl rfl (by first | decide | simp) (x_pick_f rfl (fr.ev rfl) (fr.ev rfl)) ?_
        clear fr a; intro a fr
        refine fx_val (v := .bool false) fr rfl rfl (by first | decide | simp) (x_assign rfl (fr.ev rfl)) ?_
        clear fr a; intro a fr
        refine wpList_nil ?_
        refine fx_next ?_
        refine wp_seq ?_
        refine wp_region_lit ?_  -- region 16
        refine fx_val (v := .pointer (some ⟨b87, 0, none⟩)) fr rfl rfl (by first | decide | simp) (x_fieldAddr fo42_0 rfl (fr.ev rfl) rfl) ?_
        clear fr a; intro a fr
        refine fx_val (v := .int .i64 ((entOf T9.1.E ((k : Nat) : Int).toNat).o)) fr rfl rfl (by first | decide | simp) (x_load1 pl3 rfl (fr.ev rfl) (B90.cell 0 rfl)) ?_
        clear fr a; intro a fr
        refine fx_val (v := .bool true) fr rfl rfl (by first | decide | simp) (x_geq rfl (fr.ev rfl) rfl (decide_eq_true ho)) ?_
        clear fr a; intro a fr
        refine fx_val (v := .bool true) fr rfl rfl (by first | decide | simp) (x_move rfl (fr.ev rfl)) ?_
        clear fr a; intro a fr
        refine fx_val (v := .bool false) fr (fr.want rfl rfl rfl) rfl (by first | decide | simp) (x_move rfl (fr.ev rfl)) ?_
        clear fr a; intro a fr
        refine fx_val (v := .bool false) fr rfl rfl (by first | decide | simp) (x_pick_t rfl (fr.ev rfl) (fr.ev rfl)) ?_
        clear fr a; intro a fr
        refine fx_val (v := .bool false) fr rfl rfl (by first | decide | simp) (x_move rfl (fr.ev rfl)) ?_
        clear fr a; intro a fr
        refine fx_val (v := .pointer (some ⟨b87, 0, none⟩)) fr (fr.want rfl rfl rfl) rfl (by first | decide | simp) (x_fieldAddr fo42_0 rfl (fr.ev rfl) rfl) ?_
        clear fr a; intro a fr
        refine fx_val (v := .int .i64 ((entOf T9.1.E ((k : Nat) : Int).toNat).o)) fr (fr.want rfl rfl rfl) rfl (by first | decide | simp) (x_load1 pl3 rfl (fr.ev rfl) (B90.cell 0 rfl)) ?_
        clear fr a; intro a fr
        refine fx_val (v := .bool false) fr (fr.want rfl rfl rfl) rfl (by first | decide | simp) (x_lss rfl (fr.ev rfl) rfl (decide_eq_false ho1)) ?_
        clear fr a; intro a fr
        refine fx_val (v := .bool false) fr rfl rfl (by first | decide | simp) (x_pick_f rfl (fr.ev rfl) (fr.ev rfl)) ?_
        clear fr a; intro a fr
        refine fx_val (v := .bool false) fr rfl rfl (by first | decide | simp) (x_move rfl (fr.ev rfl)) ?_
        clear fr a; intro a fr
        refine fx_val (v := .pointer (some ⟨b87, 0, none⟩)) fr (fr.want rfl rfl rfl) rfl (by first | decide | simp) (x_fieldAddr fo42_0 rfl (fr.ev rfl) rfl) ?_
        clear fr a; intro a fr
        refine fx_val (v := .int .i64 ((entOf T9.1.E ((k : Nat) : Int).toNat).o)) fr (fr.want rfl rfl rfl) rfl (by first | decide | simp) (x_load1 pl3 rfl (fr.ev rfl) (B90.cell 0 rfl)) ?_
        clear fr a; intro a fr
        refine fx_val (v := .bool false) fr (fr.want rfl rfl rfl) rfl (by first | decide | simp) (x_geq rfl (fr.ev rfl) rfl (decide_eq_false ho4)) ?_
        clear fr a; intro a fr
        refine fx_val (v := .bool false) fr rfl rfl (by first | decide | simp) (x_pick_f rfl (fr.ev rfl) (fr.ev rfl)) ?_
        clear fr a; intro a fr
        refine fx_val (v := .bool false) fr rfl rfl (by first | decide | simp) (x_move rfl (fr.ev rfl)) ?_
        clear fr a; intro a fr
        refine fx_val (v := .pointer (some ⟨b87, 5, none⟩)) fr (fr.want rfl rfl rfl) rfl (by first | decide | simp) (x_fieldAddr fo42_2 rfl (fr.ev rfl) rfl) ?_
        clear fr a; intro a fr
        refine fx_val (v := .bool true) fr (fr.want rfl rfl rfl) rfl (by first | decide | simp) (x_load1 pl4 rfl (fr.ev rfl) ((show _ = some (Value.bool ((entOf T9.1.E ((k : Nat) : Int).toNat).busy)) from (B90.cell 5 rfl)).trans (by rw [hb]))) ?_
        clear fr a; intro a fr
        refine fx_val (v := .bool false) fr (fr.want rfl rfl rfl) rfl (by first | decide | simp) (x_not rfl (fr.ev rfl) rfl) ?_
        clear fr a; intro a fr
        refine fx_val (v := .bool false) fr (fr.want rfl rfl rfl) rfl (by first | decide | simp) (x_move rfl (fr.ev rfl)) ?_
        clear fr a; intro a fr
        refine fx_skip fr (fr.unwant rfl rfl rfl (by decide)) rfl (by first | decide | simp) ?_
        clear fr a; intro a fr
        refine fx_skip fr (fr.unwant rfl rfl rfl (by decide)) rfl (by first | decide | simp) ?_
        clear fr a; intro a fr
        refine fx_skip fr (fr.unwant rfl rfl rfl (by decide)) rfl (by first | decide | simp) ?_
        clear fr a; intro a fr
        refine fx_skip fr (fr.unwant rfl rfl rfl (by decide)) rfl (by first | decide | simp) ?_
        clear fr a; intro a fr
        refine fx_skip fr (fr.unwant_u rfl rfl rfl) rfl (by first | decide | simp) ?_
        clear fr a; intro a fr
        refine fx_skip fr (fr.unwant_u rfl rfl rfl) rfl (by first | decide | simp) ?_
        clear fr a; intro a fr
        refine fx_skip fr (fr.unwant rfl rfl rfl (by decide)) rfl (by first | decide | simp) ?_
        clear fr a; intro a fr
        refine fx_skip fr (fr.unwant rfl rfl rfl (by decide)) rfl (by first | decide | simp) ?_
        clear fr a; intro a fr
        refine fx_skip fr (fr.unwant_u rfl rfl rfl) rfl (by first | decide | simp) ?_
        clear fr a; intro a fr
        refine fx_skip fr (fr.unwant_u rfl rfl rfl) rfl (by first | decide | simp) ?_
        clear fr a; intro a fr
        refine fx_skip fr (fr.unwant_u rfl rfl rfl) rfl (by first | decide | simp) ?_
        clear fr a; intro a fr
        refine fx_skip fr (fr.unwant_u rfl rfl rfl) rfl (by first | decide | simp) ?_
        clear fr a; intro a fr
        refine fx_skip fr (fr.unwant rfl rfl rfl (by decide)) rfl (by first | decide | simp) ?_
        clear fr a; intro a fr
        refine fx_val (v := .bool false) fr (fr.want rfl rfl rfl) rfl (by first | decide | simp) (x_pick_f rfl (fr.ev rfl) rfl) ?_
        clear fr a; intro a fr
        refine fx_val (v := .bool false) fr rfl rfl (by first | decide | simp) (x_pick_f rfl (fr.ev rfl) (fr.ev rfl)) ?_
        clear fr a; intro a fr
        refine fx_val (v := .bool false) fr rfl rfl (by first | decide | simp) (x_move rfl (fr.ev rfl)) ?_
        clear fr a; intro a fr
        refine fx_val (v := .int .i64 T9.2.2) fr (fr.want rfl rfl rfl) rfl (by first | decide | simp) (x_move rfl (fr.ev rfl)) ?_
        clear fr a; intro a fr
        refine fx_val (v := .bool false) fr (fr.want rfl rfl rfl) rfl (by first | decide | simp) (x_neq rfl (fr.ev rfl) rfl (decide_eq_false he)) ?_
        clear fr a; intro a fr
        refine fx_val (v := .bool false) fr (fr.want rfl rfl rfl) rfl (by first | decide | simp) (x_move rfl (fr.ev rfl)) ?_
        clear fr a; intro a fr
        refine fx_skip fr (fr.unwant rfl rfl rfl (by decide)) rfl (by first | decide | simp) ?_
        clear fr a; intro a fr
        refine fx_skip fr (fr.unwant rfl rfl rfl (by decide)) rfl (by first | decide | simp) ?_
        clear fr a; intro a fr
        refine fx_skip fr (fr.unwant rfl rfl rfl (by decide)) rfl (by first | decide | simp) ?_
        clear fr a; intro a fr
        refine fx_skip fr (fr.unwant rfl rfl rfl (by decide)) rfl (by first | decide | simp) ?_
        clear fr a; intro a fr
        refine fx_val (v := .bool false) fr (fr.want rfl rfl rfl) rfl (by first | decide | simp) (x_pick_f rfl (fr.ev rfl) rfl) ?_
        clear fr a; intro a fr
        refine fx_val (v := .bool false) fr rfl rfl (by first | decide | simp) (x_pick_f rfl (fr.ev rfl) (fr.ev rfl)) ?_
        clear fr a; intro a fr
        refine wpList_nil ?_
        refine fx_next ?_
        refine fx_cond_f fr rfl ?_
        refine wp_skip ?_
        refine fx_blk ?_
        refine fx_next ?_
        refine wp_region_lit ?_  -- region 6
        refine fx_val (v := .int .i64 ((i : Nat) : Int)) fr rfl rfl (by first | decide | simp) (x_move rfl (fr.ev rfl)) ?_
        clear fr a; intro a fr
        refine fx_val (v := .int .i64 ((i + 1 : Nat) : Int)) fr rfl rfl (by first | decide | simp) (x_add rfl (fr.ev rfl) rfl (i64w (r := ((i + 1 : Nat) : Int)) (by omega) (by omega))) ?_
        clear fr a; intro a fr
        refine fx_val (v := .int .i64 ((i + 1 : Nat) : Int)) fr rfl rfl (by first | decide | simp) (x_assign rfl (fr.ev rfl)) ?_
        clear fr a; intro a fr
        refine wpList_nil ?_
        refine fx_next ?_
        exact ⟨_, by omega, (i + 1), T9.1, Fp58, rfl, fr.sub ⟨rfl, rfl, rfl, rfl, trivial⟩, hF, hV, hL, H61, by omega, hHI2, hTl.trans hEl, (symP ap2_Fp58_A), (symP ap2_Fp58_C), gA_Fp58⟩
      · skip
        have hsh := hEI.apart ho
        have hw0 := (hEI.idle hb).1
        have ht0 := (hEI.idle hb).2
        have hq0 := hNQ hb
        have hq1 : ¬ 0 < (((entOf T9.1.E ((k : Nat) : Int).toNat).q.length : Nat) : Int) := by rw [hq0]; decide
        have hw1 : ¬ (entOf T9.1.E ((k : Nat) : Int).toNat).waits ≠ 0 := fun h => h hw0
        have hDX : (entOf hd.E ((k : Nat) : Int).toNat) = (entOf T9.1.E ((k : Nat) : Int).toNat) := by rw [href he]
        refine wp_region_lit ?_  -- region 15
        refine fx_val (v := .pointer (some ⟨b87, 1, none⟩)) fr rfl rfl (by first | decide | simp) (x_fieldAddr fo42_1 rfl (fr.ev rfl) rfl) ?_
        clear fr a; intro a fr
        refine fx_val (v := .pointer (some ⟨b87, 1, none⟩)) fr rfl rfl (by first | decide | simp) (x_indexArr Try.underlying40 sz4 rfl (fr.ev rfl) (show _ = Value.int .i64 ((0 : Nat) : Int) from rfl) (by decide) (by decide)) ?_
        clear fr a; intro a fr
        refine fx_val (v := .bool false) fr rfl rfl (by first | decide | simp) (x_load1 pl4 rfl (fr.ev rfl) ((show _ = some (Value.bool (((entOf T9.1.E ((k : Nat) : Int).toNat).sh).a)) from (B90.cell 1 rfl)).trans (by rw [hsh]; rfl))) ?_
        clear fr a; intro a fr
        refine fx_val (v := .bool false) fr rfl rfl (by first | decide | simp) (x_move rfl (fr.ev rfl)) ?_
        clear fr a; intro a fr
        refine fx_val (v := .pointer (some ⟨b87, 1, none⟩)) fr (fr.want rfl rfl rfl) rfl (by first | decide | simp) (x_fieldAddr fo42_1 rfl (fr.ev rfl) rfl) ?_
        clear fr a; intro a fr
        refine fx_val (v := .pointer (some ⟨b87, 2, none⟩)) fr (fr.want rfl rfl rfl) rfl (by first | decide | simp) (x_indexArr Try.underlying40 sz4 rfl (fr.ev rfl) (show _ = Value.int .i64 ((1 : Nat) : Int) from rfl) (by decide) (by decide)) ?_
        clear fr a; intro a fr
        refine fx_val (v := .bool false) fr (fr.want rfl rfl rfl) rfl (by first | decide | simp) (x_load1 pl4 rfl (fr.ev rfl) ((show _ = some (Value.bool (((entOf T9.1.E ((k : Nat) : Int).toNat).sh).b)) from (B90.cell 2 rfl)).trans (by rw [hsh]; rfl))) ?_
        clear fr a; intro a fr
        refine fx_val (v := .bool false) fr rfl rfl (by first | decide | simp) (x_pick_f rfl (fr.ev rfl) (fr.ev rfl)) ?_
        clear fr a; intro a fr
        refine fx_val (v := .bool false) fr rfl rfl (by first | decide | simp) (x_move rfl (fr.ev rfl)) ?_
        clear fr a; intro a fr
        refine fx_val (v := .pointer (some ⟨b87, 1, none⟩)) fr (fr.want rfl rfl rfl) rfl (by first | decide | simp) (x_fieldAddr fo42_1 rfl (fr.ev rfl) rfl) ?_
        clear fr a; intro a fr
        refine fx_val (v := .pointer (some ⟨b87, 3, none⟩)) fr (fr.want rfl rfl rfl) rfl (by first | decide | simp) (x_indexArr Try.underlying40 sz4 rfl (fr.ev rfl) (show _ = Value.int .i64 ((2 : Nat) : Int) from rfl) (by decide) (by decide)) ?_
        clear fr a; intro a fr
        refine fx_val (v := .bool false) fr (fr.want rfl rfl rfl) rfl (by first | decide | simp) (x_load1 pl4 rfl (fr.ev rfl) ((show _ = some (Value.bool (((entOf T9.1.E ((k : Nat) : Int).toNat).sh).c)) from (B90.cell 3 rfl)).trans (by rw [hsh]; rfl))) ?_
        clear fr a; intro a fr
        refine fx_val (v := .bool false) fr rfl rfl (by first | decide | simp) (x_pick_f rfl (fr.ev rfl) (fr.ev rfl)) ?_
        clear fr a; intro a fr
        refine fx_val (v := .bool false) fr rfl rfl (by first | decide | simp) (x_move rfl (fr.ev rfl)) ?_
        clear fr a; intro a fr
        refine fx_val (v := .pointer (some ⟨b87, 1, none⟩)) fr (fr.want rfl rfl rfl) rfl (by first | decide | simp) (x_fieldAddr fo42_1 rfl (fr.ev rfl) rfl) ?_
        clear fr a; intro a fr
        refine fx_val (v := .pointer (some ⟨b87, 4, none⟩)) fr (fr.want rfl rfl rfl) rfl (by first | decide | simp) (x_indexArr Try.underlying40 sz4 rfl (fr.ev rfl) (show _ = Value.int .i64 ((3 : Nat) : Int) from rfl) (by decide) (by decide)) ?_
        clear fr a; intro a fr
        refine fx_val (v := .bool false) fr (fr.want rfl rfl rfl) rfl (by first | decide | simp) (x_load1 pl4 rfl (fr.ev rfl) ((show _ = some (Value.bool (((entOf T9.1.E ((k : Nat) : Int).toNat).sh).d)) from (B90.cell 4 rfl)).trans (by rw [hsh]; rfl))) ?_
        clear fr a; intro a fr
        refine fx_val (v := .bool false) fr rfl rfl (by first | decide | simp) (x_pick_f rfl (fr.ev rfl) (fr.ev rfl)) ?_
        clear fr a; intro a fr
        refine fx_val (v := .bool false) fr rfl rfl (by first | decide | simp) (x_assign rfl (fr.ev rfl)) ?_
        clear fr a; intro a fr
        refine wpList_nil ?_
        refine fx_next ?_
        refine wp_seq ?_
        refine wp_region_lit ?_  -- region 16
        refine fx_val (v := .pointer (some ⟨b87, 0, none⟩)) fr rfl rfl (by first | decide | simp) (x_fieldAddr fo42_0 rfl (fr.ev rfl) rfl) ?_
        clear fr a; intro a fr
        refine fx_val (v := .int .i64 ((entOf T9.1.E ((k : Nat) : Int).toNat).o)) fr rfl rfl (by first | decide | simp) (x_load1 pl3 rfl (fr.ev rfl) (B90.cell 0 rfl)) ?_
        clear fr a; intro a fr
        refine fx_val (v := .bool true) fr rfl rfl (by first | decide | simp) (x_geq rfl (fr.ev rfl) rfl (decide_eq_true ho)) ?_
        clear fr a; intro a fr
        refine fx_val (v := .bool true) fr rfl rfl (by first | decide | simp) (x_move rfl (fr.ev rfl)) ?_
        clear fr a; intro a fr
        refine fx_val (v := .bool false) fr (fr.want rfl rfl rfl) rfl (by first | decide | simp) (x_move rfl (fr.ev rfl)) ?_
        clear fr a; intro a fr
        refine fx_val (v := .bool false) fr rfl rfl (by first | decide | simp) (x_pick_t rfl (fr.ev rfl) (fr.ev rfl)) ?_
        clear fr a; intro a fr
        refine fx_val (v := .bool false) fr rfl rfl (by first | decide | simp) (x_move rfl (fr.ev rfl)) ?_
        clear fr a; intro a fr
        refine fx_val (v := .pointer (some ⟨b87, 0, none⟩)) fr (fr.want rfl rfl rfl) rfl (by first | decide | simp) (x_fieldAddr fo42_0 rfl (fr.ev rfl) rfl) ?_
        clear fr a; intro a fr
        refine fx_val (v := .int .i64 ((entOf T9.1.E ((k : Nat) : Int).toNat).o)) fr (fr.want rfl rfl rfl) rfl (by first | decide | simp) (x_load1 pl3 rfl (fr.ev rfl) (B90.cell 0 rfl)) ?_
        clear fr a; intro a fr
        refine fx_val (v := .bool false) fr (fr.want rfl rfl rfl) rfl (by first | decide | simp) (x_lss rfl (fr.ev rfl) rfl (decide_eq_false ho1)) ?_
        clear fr a; intro a fr
        refine fx_val (v := .bool false) fr rfl rfl (by first | decide | simp) (x_pick_f rfl (fr.ev rfl) (fr.ev rfl)) ?_
        clear fr a; intro a fr
        refine fx_val (v := .bool false) fr rfl rfl (by first | decide | simp) (x_move rfl (fr.ev rfl)) ?_
        clear fr a; intro a fr
        refine fx_val (v := .pointer (some ⟨b87, 0, none⟩)) fr (fr.want rfl rfl rfl) rfl (by first | decide | simp) (x_fieldAddr fo42_0 rfl (fr.ev rfl) rfl) ?_
        clear fr a; intro a fr
        refine fx_val (v := .int .i64 ((entOf T9.1.E ((k : Nat) : Int).toNat).o)) fr (fr.want rfl rfl rfl) rfl (by first | decide | simp) (x_load1 pl3 rfl (fr.ev rfl) (B90.cell 0 rfl)) ?_
        clear fr a; intro a fr
        refine fx_val (v := .bool false) fr (fr.want rfl rfl rfl) rfl (by first | decide | simp) (x_geq rfl (fr.ev rfl) rfl (decide_eq_false ho4)) ?_
        clear fr a; intro a fr
        refine fx_val (v := .bool false) fr rfl rfl (by first | decide | simp) (x_pick_f rfl (fr.ev rfl) (fr.ev rfl)) ?_
        clear fr a; intro a fr
        refine fx_val (v := .bool false) fr rfl rfl (by first | decide | simp) (x_move rfl (fr.ev rfl)) ?_
        clear fr a; intro a fr
        refine fx_val (v := .pointer (some ⟨b87, 5, none⟩)) fr (fr.want rfl rfl rfl) rfl (by first | decide | simp) (x_fieldAddr fo42_2 rfl (fr.ev rfl) rfl) ?_
        clear fr a; intro a fr
        refine fx_val (v := .bool false) fr (fr.want rfl rfl rfl) rfl (by first | decide | simp) (x_load1 pl4 rfl (fr.ev rfl) ((show _ = some (Value.bool ((entOf T9.1.E ((k : Nat) : Int).toNat).busy)) from (B90.cell 5 rfl)).trans (by rw [hb]))) ?_
        clear fr a; intro a fr
        refine fx_val (v := .bool true) fr (fr.want rfl rfl rfl) rfl (by first | decide | simp) (x_not rfl (fr.ev rfl) rfl) ?_
        clear fr a; intro a fr
        refine fx_val (v := .bool true) fr (fr.want rfl rfl rfl) rfl (by first | decide | simp) (x_move rfl (fr.ev rfl)) ?_
        clear fr a; intro a fr
        refine fx_val (v := .pointer (some ⟨b87, 8, none⟩)) fr (fr.want rfl rfl rfl) rfl (by first | decide | simp) (x_fieldAddr fo42_5 rfl (fr.ev rfl) rfl) ?_
        clear fr a; intro a fr
        refine fx_val (v := .int .i64 ((entOf T9.1.E ((k : Nat) : Int).toNat).waits)) fr (fr.want rfl rfl rfl) rfl (by first | decide | simp) (x_load1 pl3 rfl (fr.ev rfl) (B90.cell 8 rfl)) ?_
        clear fr a; intro a fr
        refine fx_val (v := .bool false) fr (fr.want rfl rfl rfl) rfl (by first | decide | simp) (x_neq rfl (fr.ev rfl) rfl (decide_eq_false hw1)) ?_
        clear fr a; intro a fr
        refine fx_val (v := .bool false) fr (fr.want rfl rfl rfl) rfl (by first | decide | simp) (x_move rfl (fr.ev rfl)) ?_
        clear fr a; intro a fr
        refine fx_val (v := .pointer (some ⟨b87, 9, none⟩)) fr (fr.want rfl rfl rfl) rfl (by first | decide | simp) (x_fieldAddr fo42_6 rfl (fr.ev rfl) rfl) ?_
        clear fr a; intro a fr
        refine fx_val (v := .bool false) fr (fr.want rfl rfl rfl) rfl (by first | decide | simp) (x_load1 pl4 rfl (fr.ev rfl) ((show _ = some (Value.bool ((entOf T9.1.E ((k : Nat) : Int).toNat).told)) from (B90.cell 9 rfl)).trans (by rw [ht0]))) ?_
        clear fr a; intro a fr
        refine fx_val (v := .bool false) fr (fr.want rfl rfl rfl) rfl (by first | decide | simp) (x_pick_f rfl (fr.ev rfl) (fr.ev rfl)) ?_
        clear fr a; intro a fr
        refine fx_val (v := .bool false) fr (fr.want rfl rfl rfl) rfl (by first | decide | simp) (x_move rfl (fr.ev rfl)) ?_
        clear fr a; intro a fr
        refine fx_val (v := .pointer (some ⟨b87, 10, none⟩)) fr (fr.want rfl rfl rfl) rfl (by first | decide | simp) (x_fieldAddr fo42_7 rfl (fr.ev rfl) rfl) ?_
        clear fr a; intro a fr
        refine fx_val (v := .slice Q81 ((entOf T9.1.E ((k : Nat) : Int).toNat).q.length) qc82) fr (fr.want rfl rfl rfl) rfl (by first | decide | simp) (x_load1 pl23 rfl (fr.ev rfl) (B90.cell 10 rfl)) ?_
        clear fr a; intro a fr
        refine fx_val (v := .int .i64 (((entOf T9.1.E ((k : Nat) : Int).toNat).q.length : Nat) : Int)) fr (fr.want rfl rfl rfl) rfl (by first | decide | simp) (x_len Try.underlying23 rfl (fr.ev rfl)) ?_
        clear fr a; intro a fr
        refine fx_val (v := .bool false) fr (fr.want rfl rfl rfl) rfl (by first | decide | simp) (x_gtr rfl (fr.ev rfl) rfl (decide_eq_false hq1)) ?_
        clear fr a; intro a fr
        refine fx_val (v := .bool false) fr (fr.want rfl rfl rfl) rfl (by first | decide | simp) (x_pick_f rfl (fr.ev rfl) (fr.ev rfl)) ?_
        clear fr a; intro a fr
        refine fx_val (v := .bool false) fr (fr.want rfl rfl rfl) rfl (by first | decide | simp) (x_pick_t rfl (fr.ev rfl) (fr.ev rfl)) ?_
        clear fr a; intro a fr
        refine fx_val (v := .bool false) fr rfl rfl (by first | decide | simp) (x_pick_f rfl (fr.ev rfl) (fr.ev rfl)) ?_
        clear fr a; intro a fr
        refine fx_val (v := .bool false) fr rfl rfl (by first | decide | simp) (x_move rfl (fr.ev rfl)) ?_
        clear fr a; intro a fr
        refine fx_val (v := .int .i64 T9.2.2) fr (fr.want rfl rfl rfl) rfl (by first | decide | simp) (x_move rfl (fr.ev rfl)) ?_
        clear fr a; intro a fr
        refine fx_val (v := .bool true) fr (fr.want rfl rfl rfl) rfl (by first | decide | simp) (x_neq rfl (fr.ev rfl) rfl (decide_eq_true he)) ?_
        clear fr a; intro a fr
        refine fx_val (v := .bool true) fr (fr.want rfl rfl rfl) rfl (by first | decide | simp) (x_move rfl (fr.ev rfl)) ?_
        clear fr a; intro a fr
        refine fx_val (v := .agg (entA (entOf hd.E ((k : Nat) : Int).toNat) (.slice Q43 ((entOf hd.E ((k : Nat) : Int).toNat).q.length) qc44))) fr (fr.want rfl rfl rfl) rfl (by first | decide | simp) (x_loadS ag42 rfl (fr.ev rfl) rfl B52.range) ?_
        clear fr a; intro a fr
        refine fx_val (v := .agg (entA (entOf T9.1.E ((k : Nat) : Int).toNat) (.slice Q81 ((entOf T9.1.E ((k : Nat) : Int).toNat).q.length) qc82))) fr (fr.want rfl rfl rfl) rfl (by first | decide | simp) (x_loadS ag42 rfl (fr.ev rfl) rfl B90.range) ?_
        clear fr a; intro a fr
        refine fx_call fr (fr.want rfl rfl rfl) rfl (by first | decide | simp) (x_call (vs := [.agg (entA (entOf hd.E ((k : Nat) : Int).toNat) (.slice Q43 ((entOf hd.E ((k : Nat) : Int).toNat).q.length) qc44)), .agg (entA (entOf T9.1.E ((k : Nat) : Int).toNat) (.slice Q81 ((entOf T9.1.E ((k : Nat) : Int).toNat).q.length) qc82))]) rfl rfl ⟨(fr.ev rfl), (fr.ev rfl), trivial⟩ Try.func14 nm14 rfl) (sament_c (d := (entOf hd.E ((k : Nat) : Int).toNat)) (e := (entOf T9.1.E ((k : Nat) : Int).toNat)) (OQ45.view) (OQ83.view)) ?_
        clear fr a
        rintro v w96 ⟨rfl, hN97⟩ a fr
        replace hV := hV.new hN97
        replace hL := hL.new hN97
        replace H30 := H30.new hN97
        replace OQ45 := OQ45.new hN97
        replace B52 := B52.new hN97
        replace H61 := H61.new hN97
        replace O59 := O59.new hN97
        replace OQ68 := OQ68.new hN97
        replace B75 := B75.new hN97
        replace OQ83 := OQ83.new hN97
        replace B90 := B90.new hN97
        replace hF := hF.trNew hN97
        rw [show decide ((entOf hd.E ((k : Nat) : Int).toNat) = (entOf T9.1.E ((k : Nat) : Int).toNat)) = true from decide_eq_true hDX] at fr
        refine fx_val (v := .bool false) fr (fr.want rfl rfl rfl) rfl (by first | decide | simp) (x_not rfl (fr.ev rfl) rfl) ?_
        clear fr a; intro a fr
        refine fx_val (v := .bool false) fr (fr.want rfl rfl rfl) rfl (by first | decide | simp) (x_pick_t rfl (fr.ev rfl) (fr.ev rfl)) ?_
        clear fr a; intro a fr
        refine fx_val (v := .bool false) fr rfl rfl (by first | decide | simp) (x_pick_f rfl (fr.ev rfl) (fr.ev rfl)) ?_
        clear fr a; intro a fr
        refine wpList_nil ?_
        refine fx_next ?_
        refine fx_cond_f fr rfl ?_
        refine wp_skip ?_
        refine fx_blk ?_
        refine fx_next ?_
        refine wp_region_lit ?_  -- region 6
        refine fx_val (v := .int .i64 ((i : Nat) : Int)) fr rfl rfl (by first | decide | simp) (x_move rfl (fr.ev rfl)) ?_
        clear fr a; intro a fr
        refine fx_val (v := .int .i64 ((i + 1 : Nat) : Int)) fr rfl rfl (by first | decide | simp) (x_add rfl (fr.ev rfl) rfl (i64w (r := ((i + 1 : Nat) : Int)) (by omega) (by omega))) ?_
        clear fr a; intro a fr
        refine fx_val (v := .int .i64 ((i + 1 : Nat) : Int)) fr rfl rfl (by first | decide | simp) (x_assign rfl (fr.ev rfl)) ?_
        clear fr a; intro a fr
        refine wpList_nil ?_
        refine fx_next ?_
        exact ⟨_, by omega, (i + 1), T9.1, Fp58, rfl, fr.sub ⟨rfl, rfl, rfl, rfl, trivial⟩, hF, hV, hL, H61, by omega, hHI2, hTl.trans hEl, (symP ap2_Fp58_A), (symP ap2_Fp58_C), gA_Fp58⟩
      · skip
        have hsh := hEI.apart ho
        have hw0 := (hEI.idle hb).1
        have ht0 := (hEI.idle hb).2
        have hq0 := hNQ hb
        have hq1 : ¬ 0 < (((entOf T9.1.E ((k : Nat) : Int).toNat).q.length : Nat) : Int) := by rw [hq0]; decide
        have hw1 : ¬ (entOf T9.1.E ((k : Nat) : Int).toNat).waits ≠ 0 := fun h => h hw0
        refine wp_region_lit ?_  -- region 15
        refine fx_val (v := .pointer (some ⟨b87, 1, none⟩)) fr rfl rfl (by first | decide | simp) (x_fieldAddr fo42_1 rfl (fr.ev rfl) rfl) ?_
        clear fr a; intro a fr
        refine fx_val (v := .pointer (some ⟨b87, 1, none⟩)) fr rfl rfl (by first | decide | simp) (x_indexArr Try.underlying40 sz4 rfl (fr.ev rfl) (show _ = Value.int .i64 ((0 : Nat) : Int) from rfl) (by decide) (by decide)) ?_
        clear fr a; intro a fr
        refine fx_val (v := .bool false) fr rfl rfl (by first | decide | simp) (x_load1 pl4 rfl (fr.ev rfl) ((show _ = some (Value.bool (((entOf T9.1.E ((k : Nat) : Int).toNat).sh).a)) from (B90.cell 1 rfl)).trans (by rw [hsh]; rfl))) ?_
        clear fr a; intro a fr
        refine fx_val (v := .bool false) fr rfl rfl (by first | decide | simp) (x_move rfl (fr.ev rfl)) ?_
        clear fr a; intro a fr
        refine fx_val (v := .pointer (some ⟨b87, 1, none⟩)) fr (fr.want rfl rfl rfl) rfl (by first | decide | simp) (x_fieldAddr fo42_1 rfl (fr.ev rfl) rfl) ?_
        clear fr a; intro a fr
        refine fx_val (v := .pointer (some ⟨b87, 2, none⟩)) fr (fr.want rfl rfl rfl) rfl (by first | decide | simp) (x_indexArr Try.underlying40 sz4 rfl (fr.ev rfl) (show _ = Value.int .i64 ((1 : Nat) : Int) from rfl) (by decide) (by decide)) ?_
        clear fr a; intro a fr
        refine fx_val (v := .bool false) fr (fr.want rfl rfl rfl) rfl (by first | decide | simp) (x_load1 pl4 rfl (fr.ev rfl) ((show _ = some (Value.bool (((entOf T9.1.E ((k : Nat) : Int).toNat).sh).b)) from (B90.cell 2 rfl)).trans (by rw [hsh]; rfl))) ?_
        clear fr a; intro a fr
        refine fx_val (v := .bool false) fr rfl rfl (by first | decide | simp) (x_pick_f rfl (fr.ev rfl) (fr.ev rfl)) ?_
        clear fr a; intro a fr
        refine fx_val (v := .bool false) fr rfl rfl (by first | decide | simp) (x_move rfl (fr.ev rfl)) ?_
        clear fr a; intro a fr
        refine fx_val (v := .pointer (some ⟨b87, 1, none⟩)) fr (fr.want rfl rfl rfl) rfl (by first | decide | simp) (x_fieldAddr fo42_1 rfl (fr.ev rfl) rfl) ?_
        clear fr a; intro a fr
        refine fx_val (v := .pointer (some ⟨b87, 3, none⟩)) fr (fr.want rfl rfl rfl) rfl (by first | decide | simp) (x_indexArr Try.underlying40 sz4 rfl (fr.ev rfl) (show _ = Value.int .i64 ((2 : Nat) : Int) from rfl) (by decide) (by decide)) ?_
        clear fr a; intro a fr
        refine fx_val (v := .bool false) fr (fr.want rfl rfl rfl) rfl (by first | decide | simp) (x_load1 pl4 rfl (fr.ev rfl) ((show _ = some (Value.bool (((entOf T9.1.E ((k : Nat) : Int).toNat).sh).c)) from (B90.cell 3 rfl)).trans (by rw [hsh]; rfl))) ?_
        clear fr a; intro a fr
        refine fx_val (v := .bool false) fr rfl rfl (by first | decide | simp) (x_pick_f rfl (fr.ev rfl) (fr.ev rfl)) ?_
        clear fr a; intro a fr
        refine fx_val (v := .bool false) fr rfl rfl (by first | decide | simp) (x_move rfl (fr.ev rfl)) ?_
        clear fr a; intro a fr
        refine fx_val (v := .pointer (some ⟨b87, 1, none⟩)) fr (fr.want rfl rfl rfl) rfl (by first | decide | simp) (x_fieldAddr fo42_1 rfl (fr.ev rfl) rfl) ?_
        clear fr a; intro a fr
        refine fx_val (v := .pointer (some ⟨b87, 4, none⟩)) fr (fr.want rfl rfl rfl) rfl (by first | decide | simp) (x_indexArr Try.underlying40 sz4 rfl (fr.ev rfl) (show _ = Value.int .i64 ((3 : Nat) : Int) from rfl) (by decide) (by decide)) ?_
        clear fr a; intro a fr
        refine fx_val (v := .bool false) fr (fr.want rfl rfl rfl) rfl (by first | decide | simp) (x_load1 pl4 rfl (fr.ev rfl) ((show _ = some (Value.bool (((entOf T9.1.E ((k : Nat) : Int).toNat).sh).d)) from (B90.cell 4 rfl)).trans (by rw [hsh]; rfl))) ?_
        clear fr a; intro a fr
        refine fx_val (v := .bool false) fr rfl rfl (by first | decide | simp) (x_pick_f rfl (fr.ev rfl) (fr.ev rfl)) ?_
        clear fr a; intro a fr
        refine fx_val (v := .bool false) fr rfl rfl (by first | decide | simp) (x_assign rfl (fr.ev rfl)) ?_
        clear fr a; intro a fr
        refine wpList_nil ?_
        refine fx_next ?_
        refine wp_seq ?_
        refine wp_region_lit ?_  -- region 16
        refine fx_val (v := .pointer (some ⟨b87, 0, none⟩)) fr rfl rfl (by first | decide | simp) (x_fieldAddr fo42_0 rfl (fr.ev rfl) rfl) ?_
        clear fr a; intro a fr
        refine fx_val (v := .int .i64 ((entOf T9.1.E ((k : Nat) : Int).toNat).o)) fr rfl rfl (by first | decide | simp) (x_load1 pl3 rfl (fr.ev rfl) (B90.cell 0 rfl)) ?_
        clear fr a; intro a fr
        refine fx_val (v := .bool true) fr rfl rfl (by first | decide | simp) (x_geq rfl (fr.ev rfl) rfl (decide_eq_true ho)) ?_
        clear fr a; intro a fr
        refine fx_val (v := .bool true) fr rfl rfl (by first | decide | simp) (x_move rfl (fr.ev rfl)) ?_
        clear fr a; intro a fr
        refine fx_val (v := .bool false) fr (fr.want rfl rfl rfl) rfl (by first | decide | simp) (x_move rfl (fr.ev rfl)) ?_
        clear fr a; intro a fr
        refine fx_val (v := .bool false) fr rfl rfl (by first | decide | simp) (x_pick_t rfl (fr.ev rfl) (fr.ev rfl)) ?_
        clear fr a; intro a fr
        refine fx_val (v := .bool false) fr rfl rfl (by first | decide | simp) (x_move rfl (fr.ev rfl)) ?_
        clear fr a; intro a fr
        refine fx_val (v := .pointer (some ⟨b87, 0, none⟩)) fr (fr.want rfl rfl rfl) rfl (by first | decide | simp) (x_fieldAddr fo42_0 rfl (fr.ev rfl) rfl) ?_
        clear fr a; intro a fr
        refine fx_val (v := .int .i64 ((entOf T9.1.E ((k : Nat) : Int).toNat).o)) fr (fr.want rfl rfl rfl) rfl (by first | decide | simp) (x_load1 pl3 rfl (fr.ev rfl) (B90.cell 0 rfl)) ?_
        clear fr a; intro a fr
        refine fx_val (v := .bool false) fr (fr.want rfl rfl rfl) rfl (by first | decide | simp) (x_lss rfl (fr.ev rfl) rfl (decide_eq_false ho1)) ?_
        clear fr a; intro a fr
        refine fx_val (v := .bool false) fr rfl rfl (by first | decide | simp) (x_pick_f rfl (fr.ev rfl) (fr.ev rfl)) ?_
        clear fr a; intro a fr
        refine fx_val (v := .bool false) fr rfl rfl (by first | decide | simp) (x_move rfl (fr.ev rfl)) ?_
        clear fr a; intro a fr
        refine fx_val (v := .pointer (some ⟨b87, 0, none⟩)) fr (fr.want rfl rfl rfl) rfl (by first | decide | simp) (x_fieldAddr fo42_0 rfl (fr.ev rfl) rfl) ?_
        clear fr a; intro a fr
        refine fx_val (v := .int .i64 ((entOf T9.1.E ((k : Nat) : Int).toNat).o)) fr (fr.want rfl rfl rfl) rfl (by first | decide | simp) (x_load1 pl3 rfl (fr.ev rfl) (B90.cell 0 rfl)) ?_
        clear fr a; intro a fr
        refine fx_val (v := .bool false) fr (fr.want rfl rfl rfl) rfl (by first | decide | simp) (x_geq rfl (fr.ev rfl) rfl (decide_eq_false ho4)) ?_
        clear fr a; intro a fr
        refine fx_val (v := .bool false) fr rfl rfl (by first | decide | simp) (x_pick_f rfl (fr.ev rfl) (fr.ev rfl)) ?_
        clear fr a; intro a fr
        refine fx_val (v := .bool false) fr rfl rfl (by first | decide | simp) (x_move rfl (fr.ev rfl)) ?_
        clear fr a; intro a fr
        refine fx_val (v := .pointer (some ⟨b87, 5, none⟩)) fr (fr.want rfl rfl rfl) rfl (by first | decide | simp) (x_fieldAddr fo42_2 rfl (fr.ev rfl) rfl) ?_
        clear fr a; intro a fr
        refine fx_val (v := .bool false) fr (fr.want rfl rfl rfl) rfl (by first | decide | simp) (x_load1 pl4 rfl (fr.ev rfl) ((show _ = some (Value.bool ((entOf T9.1.E ((k : Nat) : Int).toNat).busy)) from (B90.cell 5 rfl)).trans (by rw [hb]))) ?_
        clear fr a; intro a fr
        refine fx_val (v := .bool true) fr (fr.want rfl rfl rfl) rfl (by first | decide | simp) (x_not rfl (fr.ev rfl) rfl) ?_
        clear fr a; intro a fr
        refine fx_val (v := .bool true) fr (fr.want rfl rfl rfl) rfl (by first | decide | simp) (x_move rfl (fr.ev rfl)) ?_
        clear fr a; intro a fr
        refine fx_val (v := .pointer (some ⟨b87, 8, none⟩)) fr (fr.want rfl rfl rfl) rfl (by first | decide | simp) (x_fieldAddr fo42_5 rfl (fr.ev rfl) rfl) ?_
        clear fr a; intro a fr
        refine fx_val (v := .int .i64 ((entOf T9.1.E ((k : Nat) : Int).toNat).waits)) fr (fr.want rfl rfl rfl) rfl (by first | decide | simp) (x_load1 pl3 rfl (fr.ev rfl) (B90.cell 8 rfl)) ?_
        clear fr a; intro a fr
        refine fx_val (v := .bool false) fr (fr.want rfl rfl rfl) rfl (by first | decide | simp) (x_neq rfl (fr.ev rfl) rfl (decide_eq_false hw1)) ?_
        clear fr a; intro a fr
        refine fx_val (v := .bool false) fr (fr.want rfl rfl rfl) rfl (by first | decide | simp) (x_move rfl (fr.ev rfl)) ?_
        clear fr a; intro a fr
        refine fx_val (v := .pointer (some ⟨b87, 9, none⟩)) fr (fr.want rfl rfl rfl) rfl (by first | decide | simp) (x_fieldAddr fo42_6 rfl (fr.ev rfl) rfl) ?_
        clear fr a; intro a fr
        refine fx_val (v := .bool false) fr (fr.want rfl rfl rfl) rfl (by first | decide | simp) (x_load1 pl4 rfl (fr.ev rfl) ((show _ = some (Value.bool ((entOf T9.1.E ((k : Nat) : Int).toNat).told)) from (B90.cell 9 rfl)).trans (by rw [ht0]))) ?_
        clear fr a; intro a fr
        refine fx_val (v := .bool false) fr (fr.want rfl rfl rfl) rfl (by first | decide | simp) (x_pick_f rfl (fr.ev rfl) (fr.ev rfl)) ?_
        clear fr a; intro a fr
        refine fx_val (v := .bool false) fr (fr.want rfl rfl rfl) rfl (by first | decide | simp) (x_move rfl (fr.ev rfl)) ?_
        clear fr a; intro a fr
        refine fx_val (v := .pointer (some ⟨b87, 10, none⟩)) fr (fr.want rfl rfl rfl) rfl (by first | decide | simp) (x_fieldAddr fo42_7 rfl (fr.ev rfl) rfl) ?_
        clear fr a; intro a fr
        refine fx_val (v := .slice Q81 ((entOf T9.1.E ((k : Nat) : Int).toNat).q.length) qc82) fr (fr.want rfl rfl rfl) rfl (by first | decide | simp) (x_load1 pl23 rfl (fr.ev rfl) (B90.cell 10 rfl)) ?_
        clear fr a; intro a fr
        refine fx_val (v := .int .i64 (((entOf T9.1.E ((k : Nat) : Int).toNat).q.length : Nat) : Int)) fr (fr.want rfl rfl rfl) rfl (by first | decide | simp) (x_len Try.underlying23 rfl (fr.ev rfl)) ?_
        clear fr a; intro a fr
        refine fx_val (v := .bool false) fr (fr.want rfl rfl rfl) rfl (by first | decide | simp) (x_gtr rfl (fr.ev rfl) rfl (decide_eq_false hq1)) ?_
        clear fr a; intro a fr
        refine fx_val (v := .bool false) fr (fr.want rfl rfl rfl) rfl (by first | decide | simp) (x_pick_f rfl (fr.ev rfl) (fr.ev rfl)) ?_
        clear fr a; intro a fr
        refine fx_val (v := .bool false) fr (fr.want rfl rfl rfl) rfl (by first | decide | simp) (x_pick_t rfl (fr.ev rfl) (fr.ev rfl)) ?_
        clear fr a; intro a fr
        refine fx_val (v := .bool false) fr rfl rfl (by first | decide | simp) (x_pick_f rfl (fr.ev rfl) (fr.ev rfl)) ?_
        clear fr a; intro a fr
        refine fx_val (v := .bool false) fr rfl rfl (by first | decide | simp) (x_move rfl (fr.ev rfl)) ?_
        clear fr a; intro a fr
        refine fx_val (v := .int .i64 T9.2.2) fr (fr.want rfl rfl rfl) rfl (by first | decide | simp) (x_move rfl (fr.ev rfl)) ?_
        clear fr a; intro a fr
        refine fx_val (v := .bool false) fr (fr.want rfl rfl rfl) rfl (by first | decide | simp) (x_neq rfl (fr.ev rfl) rfl (decide_eq_false he)) ?_
        clear fr a; intro a fr
        refine fx_val (v := .bool false) fr (fr.want rfl rfl rfl) rfl (by first | decide | simp) (x_move rfl (fr.ev rfl)) ?_
        clear fr a; intro a fr
        refine fx_skip fr (fr.unwant rfl rfl rfl (by decide)) rfl (by first | decide | simp) ?_
        clear fr a; intro a fr
        refine fx_skip fr (fr.unwant rfl rfl rfl (by decide)) rfl (by first | decide | simp) ?_
        clear fr a; intro a fr
        refine fx_skip fr (fr.unwant rfl rfl rfl (by decide)) rfl (by first | decide | simp) ?_
        clear fr a; intro a fr
        refine fx_skip fr (fr.unwant rfl rfl rfl (by decide)) rfl (by first | decide | simp) ?_
        clear fr a; intro a fr
        refine fx_val (v := .bool false) fr (fr.want rfl rfl rfl) rfl (by first | decide | simp) (x_pick_f rfl (fr.ev rfl) rfl) ?_
        clear fr a; intro a fr
        refine fx_val (v := .bool false) fr rfl rfl (by first | decide | simp) (x_pick_f rfl (fr.ev rfl) (fr.ev rfl)) ?_
        clear fr a; intro a fr
        refine wpList_nil ?_
        refine fx_next ?_
        refine fx_cond_f fr rfl ?_
        refine wp_skip ?_
        refine fx_blk ?_
        refine fx_next ?_
        refine wp_region_lit ?_  -- region 6
        refine fx_val (v := .int .i64 ((i : Nat) : Int)) fr rfl rfl (by first | decide | simp) (x_move rfl (fr.ev rfl)) ?_
        clear fr a; intro a fr
        refine fx_val (v := .int .i64 ((i + 1 : Nat) : Int)) fr rfl rfl (by first | decide | simp) (x_add rfl (fr.ev rfl) rfl (i64w (r := ((i + 1 : Nat) : Int)) (by omega) (by omega))) ?_
        clear fr a; intro a fr
        refine fx_val (v := .int .i64 ((i + 1 : Nat) : Int)) fr rfl rfl (by first | decide | simp) (x_assign rfl (fr.ev rfl)) ?_
        clear fr a; intro a fr
        refine wpList_nil ?_
        refine fx_next ?_
        exact ⟨_, by omega, (i + 1), T9.1, Fp58, rfl, fr.sub ⟨rfl, rfl, rfl, rfl, trivial⟩, hF, hV, hL, H61, by omega, hHI2, hTl.trans hEl, (symP ap2_Fp58_A), (symP ap2_Fp58_C), gA_Fp58⟩
      · skip
        have hDX : (entOf hd.E ((k : Nat) : Int).toNat) = (entOf T9.1.E ((k : Nat) : Int).toNat) := by rw [href he]
        refine wp_region_lit ?_  -- region 15
        refine fx_val (v := .pointer (some ⟨b87, 1, none⟩)) fr rfl rfl (by first | decide | simp) (x_fieldAddr fo42_1 rfl (fr.ev rfl) rfl) ?_
        clear fr a; intro a fr
        refine fx_val (v := .pointer (some ⟨b87, 1, none⟩)) fr rfl rfl (by first | decide | simp) (x_indexArr Try.underlying40 sz4 rfl (fr.ev rfl) (show _ = Value.int .i64 ((0 : Nat) : Int) from rfl) (by decide) (by decide)) ?_
        clear fr a; intro a fr
        refine fx_val (v := .bool (((entOf T9.1.E ((k : Nat) : Int).toNat).sh).a)) fr rfl rfl (by first | decide | simp) (x_load1 pl4 rfl (fr.ev rfl) (B90.cell 1 rfl)) ?_
        clear fr a; intro a fr
        refine fx_val (v := .bool (((entOf T9.1.E ((k : Nat) : Int).toNat).sh).a)) fr rfl rfl (by first | decide | simp) (x_move rfl (fr.ev rfl)) ?_
        clear fr a; intro a fr
        refine fx_may (g := !(((entOf T9.1.E ((k : Nat) : Int).toNat).sh).a)) (v := .pointer (some ⟨b87, 1, none⟩)) fr rfl rfl rfl (by simp) rfl (by first | decide | simp) (fun hg => x_fieldAddr fo42_1 rfl (fr.ev rfl) rfl) ?_
        clear fr a; intro a fr
        refine fx_may (g := !(((entOf T9.1.E ((k : Nat) : Int).toNat).sh).a)) (v := .pointer (some ⟨b87, 2, none⟩)) fr rfl rfl rfl (by simp) rfl (by first | decide | simp) (fun hg => x_indexArr Try.underlying40 sz4 rfl ((fr.ev rfl).trans (onlyIf_t hg)) (show _ = Value.int .i64 ((1 : Nat) : Int) from rfl) (by decide) (by decide)) ?_
        clear fr a; intro a fr
        refine fx_may (g := !(((entOf T9.1.E ((k : Nat) : Int).toNat).sh).a)) (v := .bool (((entOf T9.1.E ((k : Nat) : Int).toNat).sh).b)) fr rfl rfl rfl (by simp) rfl (by first | decide | simp) (fun hg => x_load1 pl4 rfl ((fr.ev rfl).trans (onlyIf_t hg)) (B90.cell 2 rfl)) ?_
        clear fr a; intro a fr
        refine fx_val (v := .bool ((((entOf T9.1.E ((k : Nat) : Int).toNat).sh).a) || (((entOf T9.1.E ((k : Nat) : Int).toNat).sh).b))) fr rfl rfl (by first | decide | simp) (x_pick_or rfl (fr.ev rfl) (fun _ => rfl) (fun hb => ((fr.ev rfl)).trans (onlyIf_t (by simp_all))) rfl) ?_
        clear fr a; intro a fr
        refine fx_val (v := .bool ((((entOf T9.1.E ((k : Nat) : Int).toNat).sh).a) || (((entOf T9.1.E ((k : Nat) : Int).toNat).sh).b))) fr rfl rfl (by first | decide | simp) (x_move rfl (fr.ev rfl)) ?_
        clear fr a; intro a fr
        refine fx_may (g := !((((entOf T9.1.E ((k : Nat) : Int).toNat).sh).a) || (((entOf T9.1.E ((k : Nat) : Int).toNat).sh).b))) (v := .pointer (some ⟨b87, 1, none⟩)) fr rfl rfl rfl (by simp) rfl (by first | decide | simp) (fun hg => x_fieldAddr fo42_1 rfl (fr.ev rfl) rfl) ?_
        clear fr a; intro a fr
        refine fx_may (g := !((((entOf T9.1.E ((k : Nat) : Int).toNat).sh).a) || (((entOf T9.1.E ((k : Nat) : Int).toNat).sh).b))) (v := .pointer (some ⟨b87, 3, none⟩)) fr rfl rfl rfl (by simp) rfl (by first | decide | simp) (fun hg => x_indexArr Try.underlying40 sz4 rfl ((fr.ev rfl).trans (onlyIf_t hg)) (show _ = Value.int .i64 ((2 : Nat) : Int) from rfl) (by decide) (by decide)) ?_
        clear fr a; intro a fr
        refine fx_may (g := !((((entOf T9.1.E ((k : Nat) : Int).toNat).sh).a) || (((entOf T9.1.E ((k : Nat) : Int).toNat).sh).b))) (v := .bool (((entOf T9.1.E ((k : Nat) : Int).toNat).sh).c)) fr rfl rfl rfl (by simp) rfl (by first | decide | simp) (fun hg => x_load1 pl4 rfl ((fr.ev rfl).trans (onlyIf_t hg)) (B90.cell 3 rfl)) ?_
        clear fr a; intro a fr
        refine fx_val (v := .bool (((((entOf T9.1.E ((k : Nat) : Int).toNat).sh).a) || (((entOf T9.1.E ((k : Nat) : Int).toNat).sh).b)) || (((entOf T9.1.E ((k : Nat) : Int).toNat).sh).c))) fr rfl rfl (by first | decide | simp) (x_pick_or rfl (fr.ev rfl) (fun _ => rfl) (fun hb => ((fr.ev rfl)).trans (onlyIf_t (by simp_all))) rfl) ?_
        clear fr a; intro a fr
        refine fx_val (v := .bool (((((entOf T9.1.E ((k : Nat) : Int).toNat).sh).a) || (((entOf T9.1.E ((k : Nat) : Int).toNat).sh).b)) || (((entOf T9.1.E ((k : Nat) : Int).toNat).sh).c))) fr rfl rfl (by first | decide | simp) (x_move rfl (fr.ev rfl)) ?_
        clear fr a; intro a fr
        refine fx_may (g := !(((((entOf T9.1.E ((k : Nat) : Int).toNat).sh).a) || (((entOf T9.1.E ((k : Nat) : Int).toNat).sh).b)) || (((entOf T9.1.E ((k : Nat) : Int).toNat).sh).c))) (v := .pointer (some ⟨b87, 1, none⟩)) fr rfl rfl rfl (by simp) rfl (by first | decide | simp) (fun hg => x_fieldAddr fo42_1 rfl (fr.ev rfl) rfl) ?_
        clear fr a; intro a fr
        refine fx_may (g := !(((((entOf T9.1.E ((k : Nat) : Int).toNat).sh).a) || (((entOf T9.1.E ((k : Nat) : Int).toNat).sh).b)) || (((entOf T9.1.E ((k : Nat) : Int).toNat).sh).c))) (v := .pointer (some ⟨b87, 4, none⟩)) fr rfl rfl rfl (by simp) rfl (by first | decide | simp) (fun hg => x_indexArr Try.underlying40 sz4 rfl ((fr.ev rfl).trans (onlyIf_t hg)) (show _ = Value.int .i64 ((3 : Nat) : Int) from rfl) (by decide) (by decide)) ?_
        clear fr a; intro a fr
        refine fx_may (g := !(((((entOf T9.1.E ((k : Nat) : Int).toNat).sh).a) || (((entOf T9.1.E ((k : Nat) : Int).toNat).sh).b)) || (((entOf T9.1.E ((k : Nat) : Int).toNat).sh).c))) (v := .bool (((entOf T9.1.E ((k : Nat) : Int).toNat).sh).d)) fr rfl rfl rfl (by simp) rfl (by first | decide | simp) (fun hg => x_load1 pl4 rfl ((fr.ev rfl).trans (onlyIf_t hg)) (B90.cell 4 rfl)) ?_
        clear fr a; intro a fr
        refine fx_val (v := .bool ((((((entOf T9.1.E ((k : Nat) : Int).toNat).sh).a) || (((entOf T9.1.E ((k : Nat) : Int).toNat).sh).b)) || (((entOf T9.1.E ((k : Nat) : Int).toNat).sh).c)) || (((entOf T9.1.E ((k : Nat) : Int).toNat).sh).d))) fr rfl rfl (by first | decide | simp) (x_pick_or rfl (fr.ev rfl) (fun _ => rfl) (fun hb => ((fr.ev rfl)).trans (onlyIf_t (by simp_all))) rfl) ?_
        clear fr a; intro a fr
        refine fx_val (v := .bool ((((((entOf T9.1.E ((k : Nat) : Int).toNat).sh).a) || (((entOf T9.1.E ((k : Nat) : Int).toNat).sh).b)) || (((entOf T9.1.E ((k : Nat) : Int).toNat).sh).c)) || (((entOf T9.1.E ((k : Nat) : Int).toNat).sh).d))) fr rfl rfl (by first | decide | simp) (x_assign rfl (fr.ev rfl)) ?_
        clear fr a; intro a fr
        refine wpList_nil ?_
        refine fx_next ?_
        refine wp_seq ?_
        refine wp_region_lit ?_  -- region 16
        refine fx_val (v := .pointer (some ⟨b87, 0, none⟩)) fr rfl rfl (by first | decide | simp) (x_fieldAddr fo42_0 rfl (fr.ev rfl) rfl) ?_
        clear fr a; intro a fr
        refine fx_val (v := .int .i64 ((entOf T9.1.E ((k : Nat) : Int).toNat).o)) fr rfl rfl (by first | decide | simp) (x_load1 pl3 rfl (fr.ev rfl) (B90.cell 0 rfl)) ?_
        clear fr a; intro a fr
        refine fx_val (v := .bool false) fr rfl rfl (by first | decide | simp) (x_geq rfl (fr.ev rfl) rfl (decide_eq_false ho)) ?_
        clear fr a; intro a fr
        refine fx_val (v := .bool false) fr rfl rfl (by first | decide | simp) (x_move rfl (fr.ev rfl)) ?_
        clear fr a; intro a fr
        refine fx_skip fr (fr.unwant rfl rfl rfl (by decide)) rfl (by first | decide | simp) ?_
        clear fr a; intro a fr
        refine fx_val (v := .bool false) fr rfl rfl (by first | decide | simp) (x_pick_f rfl (fr.ev rfl) rfl) ?_
        clear fr a; intro a fr
        refine fx_val (v := .bool false) fr rfl rfl (by first | decide | simp) (x_move rfl (fr.ev rfl)) ?_
        clear fr a; intro a fr
        refine fx_val (v := .pointer (some ⟨b87, 0, none⟩)) fr (fr.want rfl rfl rfl) rfl (by first | decide | simp) (x_fieldAddr fo42_0 rfl (fr.ev rfl) rfl) ?_
        clear fr a; intro a fr
        refine fx_val (v := .int .i64 ((entOf T9.1.E ((k : Nat) : Int).toNat).o)) fr (fr.want rfl rfl rfl) rfl (by first | decide | simp) (x_load1 pl3 rfl (fr.ev rfl) (B90.cell 0 rfl)) ?_
        clear fr a; intro a fr
        refine fx_val (v := .bool false) fr (fr.want rfl rfl rfl) rfl (by first | decide | simp) (x_lss rfl (fr.ev rfl) rfl (decide_eq_false ho1)) ?_
        clear fr a; intro a fr
        refine fx_val (v := .bool false) fr rfl rfl (by first | decide | simp) (x_pick_f rfl (fr.ev rfl) (fr.ev rfl)) ?_
        clear fr a; intro a fr
        refine fx_val (v := .bool false) fr rfl rfl (by first | decide | simp) (x_move rfl (fr.ev rfl)) ?_
        clear fr a; intro a fr
        refine fx_val (v := .pointer (some ⟨b87, 0, none⟩)) fr (fr.want rfl rfl rfl) rfl (by first | decide | simp) (x_fieldAddr fo42_0 rfl (fr.ev rfl) rfl) ?_
        clear fr a; intro a fr
        refine fx_val (v := .int .i64 ((entOf T9.1.E ((k : Nat) : Int).toNat).o)) fr (fr.want rfl rfl rfl) rfl (by first | decide | simp) (x_load1 pl3 rfl (fr.ev rfl) (B90.cell 0 rfl)) ?_
        clear fr a; intro a fr
        refine fx_val (v := .bool false) fr (fr.want rfl rfl rfl) rfl (by first | decide | simp) (x_geq rfl (fr.ev rfl) rfl (decide_eq_false ho4)) ?_
        clear fr a; intro a fr
        refine fx_val (v := .bool false) fr rfl rfl (by first | decide | simp) (x_pick_f rfl (fr.ev rfl) (fr.ev rfl)) ?_
        clear fr a; intro a fr
        refine fx_val (v := .bool false) fr rfl rfl (by first | decide | simp) (x_move rfl (fr.ev rfl)) ?_
        clear fr a; intro a fr
        refine fx_val (v := .pointer (some ⟨b87, 5, none⟩)) fr (fr.want rfl rfl rfl) rfl (by first | decide | simp) (x_fieldAddr fo42_2 rfl (fr.ev rfl) rfl) ?_
        clear fr a; intro a fr
        refine fx_val (v := .bool true) fr (fr.want rfl rfl rfl) rfl (by first | decide | simp) (x_load1 pl4 rfl (fr.ev rfl) ((show _ = some (Value.bool ((entOf T9.1.E ((k : Nat) : Int).toNat).busy)) from (B90.cell 5 rfl)).trans (by rw [hb]))) ?_
        clear fr a; intro a fr
        refine fx_val (v := .bool false) fr (fr.want rfl rfl rfl) rfl (by first | decide | simp) (x_not rfl (fr.ev rfl) rfl) ?_
        clear fr a; intro a fr
        refine fx_val (v := .bool false) fr (fr.want rfl rfl rfl) rfl (by first | decide | simp) (x_move rfl (fr.ev rfl)) ?_
        clear fr a; intro a fr
        refine fx_skip fr (fr.unwant rfl rfl rfl (by decide)) rfl (by first | decide | simp) ?_
        clear fr a; intro a fr
        refine fx_skip fr (fr.unwant rfl rfl rfl (by decide)) rfl (by first | decide | simp) ?_
        clear fr a; intro a fr
        refine fx_skip fr (fr.unwant rfl rfl rfl (by decide)) rfl (by first | decide | simp) ?_
        clear fr a; intro a fr
        refine fx_skip fr (fr.unwant rfl rfl rfl (by decide)) rfl (by first | decide | simp) ?_
        clear fr a; intro a fr
        refine fx_skip fr (fr.unwant_u rfl rfl rfl) rfl (by first | decide | simp) ?_
        clear fr a; intro a fr
        refine fx_skip fr (fr.unwant_u rfl rfl rfl) rfl (by first | decide | simp) ?_
        clear fr a; intro a fr
        refine fx_skip fr (fr.unwant rfl rfl rfl (by decide)) rfl (by first | decide | simp) ?_
        clear fr a; intro a fr
        refine fx_skip fr (fr.unwant rfl rfl rfl (by decide)) rfl (by first | decide | simp) ?_
        clear fr a; intro a fr
        refine fx_skip fr (fr.unwant_u rfl rfl rfl) rfl (by first | decide | simp) ?_
        clear fr a; intro a fr
        refine fx_skip fr (fr.unwant_u rfl rfl rfl) rfl (by first | decide | simp) ?_
        clear fr a; intro a fr
        refine fx_skip fr (fr.unwant_u rfl rfl rfl) rfl (by first | decide | simp) ?_
        clear fr a; intro a fr
        refine fx_skip fr (fr.unwant_u rfl rfl rfl) rfl (by first | decide | simp) ?_
        clear fr a; intro a fr
        refine fx_skip fr (fr.unwant rfl rfl rfl (by decide)) rfl (by first | decide | simp) ?_
        clear fr a; intro a fr
        refine fx_val (v := .bool false) fr (fr.want rfl rfl rfl) rfl (by first | decide | simp) (x_pick_f rfl (fr.ev rfl) rfl) ?_
        clear fr a; intro a fr
        refine fx_val (v := .bool false) fr rfl rfl (by first | decide | simp) (x_pick_f rfl (fr.ev rfl) (fr.ev rfl)) ?_
        clear fr a; intro a fr
        refine fx_val (v := .bool false) fr rfl rfl (by first | decide | simp) (x_move rfl (fr.ev rfl)) ?_
        clear fr a; intro a fr
        refine fx_val (v := .int .i64 T9.2.2) fr (fr.want rfl rfl rfl) rfl (by first | decide | simp) (x_move rfl (fr.ev rfl)) ?_
        clear fr a; intro a fr
        refine fx_val (v := .bool true) fr (fr.want rfl rfl rfl) rfl (by first | decide | simp) (x_neq rfl (fr.ev rfl) rfl (decide_eq_true he)) ?_
        clear fr a; intro a fr
        refine fx_val (v := .bool true) fr (fr.want rfl rfl rfl) rfl (by first | decide | simp) (x_move rfl (fr.ev rfl)) ?_
        clear fr a; intro a fr
        refine fx_val (v := .agg (entA (entOf hd.E ((k : Nat) : Int).toNat) (.slice Q43 ((entOf hd.E ((k : Nat) : Int).toNat).q.length) qc44))) fr (fr.want rfl rfl rfl) rfl (by first | decide | simp) (x_loadS ag42 rfl (fr.ev rfl) rfl B52.range) ?_
        clear fr a; intro a fr
        refine fx_val (v := .agg (entA (entOf T9.1.E ((k : Nat) : Int).toNat) (.slice Q81 ((entOf T9.1.E ((k : Nat) : Int).toNat).q.length) qc82))) fr (fr.want rfl rfl rfl) rfl (by first | decide | simp) (x_loadS ag42 rfl (fr.ev rfl) rfl B90.range) ?_
        clear fr a; intro a fr
        refine fx_call fr (fr.want rfl rfl rfl) rfl (by first | decide | simp) (x_call (vs := [.agg (entA (entOf hd.E ((k : Nat) : Int).toNat) (.slice Q43 ((entOf hd.E ((k : Nat) : Int).toNat).q.length) qc44)), .agg (entA (entOf T9.1.E ((k : Nat) : Int).toNat) (.slice Q81 ((entOf T9.1.E ((k : Nat) : Int).toNat).q.length) qc82))]) rfl rfl ⟨(fr.ev rfl), (fr.ev rfl), trivial⟩ Try.func14 nm14 rfl) (sament_c (d := (entOf hd.E ((k : Nat) : Int).toNat)) (e := (entOf T9.1.E ((k : Nat) : Int).toNat)) (OQ45.view) (OQ83.view)) ?_
        clear fr a
        rintro v w98 ⟨rfl, hN99⟩ a fr
        replace hV := hV.new hN99
        replace hL := hL.new hN99
        replace H30 := H30.new hN99
        replace OQ45 := OQ45.new hN99
        replace B52 := B52.new hN99
        replace H61 := H61.new hN99
        replace O59 := O59.new hN99
        replace OQ68 := OQ68.new hN99
        replace B75 := B75.new hN99
        replace OQ83 := OQ83.new hN99
        replace B90 := B90.new hN99
        replace hF := hF.trNew hN99
        rw [show decide ((entOf hd.E ((k : Nat) : Int).toNat) = (entOf T9.1.E ((k : Nat) : Int).toNat)) = true from decide_eq_true hDX] at fr
        refine fx_val (v := .bool false) fr (fr.want rfl rfl rfl) rfl (by first | decide | simp) (x_not rfl (fr.ev rfl) rfl) ?_
        clear fr a; intro a fr
        refine fx_val (v := .bool false) fr (fr.want rfl rfl rfl) rfl (by first | decide | simp) (x_pick_t rfl (fr.ev rfl) (fr.ev rfl)) ?_
        clear fr a; intro a fr
        refine fx_val (v := .bool false) fr rfl rfl (by first | decide | simp) (x_pick_f rfl (fr.ev rfl) (fr.ev rfl)) ?_
        clear fr a; intro a fr
        refine wpList_nil ?_
        refine fx_next ?_
        refine fx_cond_f fr rfl ?_
        refine wp_skip ?_
        refine fx_blk ?_
        refine fx_next ?_
        refine wp_region_lit ?_  -- region 6
        refine fx_val (v := .int .i64 ((i : Nat) : Int)) fr rfl rfl (by first | decide | simp) (x_move rfl (fr.ev rfl)) ?_
        clear fr a; intro a fr
        refine fx_val (v := .int .i64 ((i + 1 : Nat) : Int)) fr rfl rfl (by first | decide | simp) (x_add rfl (fr.ev rfl) rfl (i64w (r := ((i + 1 : Nat) : Int)) (by omega) (by omega))) ?_
        clear fr a; intro a fr
        refine fx_val (v := .int .i64 ((i + 1 : Nat) : Int)) fr rfl rfl (by first | decide | simp) (x_assign rfl (fr.ev rfl)) ?_
        clear fr a; intro a fr
        refine wpList_nil ?_
        refine fx_next ?_
        exact ⟨_, by omega, (i + 1), T9.1, Fp58, rfl, fr.sub ⟨rfl, rfl, rfl, rfl, trivial⟩, hF, hV, hL, H61, by omega, hHI2, hTl.trans hEl, (symP ap2_Fp58_A), (symP ap2_Fp58_C), gA_Fp58⟩
      · skip
        refine wp_region_lit ?_  -- region 15
        refine fx_val (v := .pointer (some ⟨b87, 1, none⟩)) fr rfl rfl (by first | decide | simp) (x_fieldAddr fo42_1 rfl (fr.ev rfl) rfl) ?_
        clear fr a; intro a fr
        refine fx_val (v := .pointer (some ⟨b87, 1, none⟩)) fr rfl rfl (by first | decide | simp) (x_indexArr Try.underlying40 sz4 rfl (fr.ev rfl) (show _ = Value.int .i64 ((0 : Nat) : Int) from rfl) (by decide) (by decide)) ?_
        clear fr a; intro a fr
        refine fx_val (v := .bool (((entOf T9.1.E ((k : Nat) : Int).toNat).sh).a)) fr rfl rfl (by first | decide | simp) (x_load1 pl4 rfl (fr.ev rfl) (B90.cell 1 rfl)) ?_
        clear fr a; intro a fr
        refine fx_val (v := .bool (((entOf T9.1.E ((k : Nat) : Int).toNat).sh).a)) fr rfl rfl (by first | decide | simp) (x_move rfl (fr.ev rfl)) ?_
        clear fr a; intro a fr
        refine fx_may (g := !(((entOf T9.1.E ((k : Nat) : Int).toNat).sh).a)) (v := .pointer (some ⟨b87, 1, none⟩)) fr rfl rfl rfl (by simp) rfl (by first | decide | simp) (fun hg => x_fieldAddr fo42_1 rfl (fr.ev rfl) rfl) ?_
        clear fr a; intro a fr
        refine fx_may (g := !(((entOf T9.1.E ((k : Nat) : Int).toNat).sh).a)) (v := .pointer (some ⟨b87, 2, none⟩)) fr rfl rfl rfl (by simp) rfl (by first | decide | simp) (fun hg => x_indexArr Try.underlying40 sz4 rfl ((fr.ev rfl).trans (onlyIf_t hg)) (show _ = Value.int .i64 ((1 : Nat) : Int) from rfl) (by decide) (by decide)) ?_
        clear fr a; intro a fr
        refine fx_may (g := !(((entOf T9.1.E ((k : Nat) : Int).toNat).sh).a)) (v := .bool (((entOf T9.1.E ((k : Nat) : Int).toNat).sh).b)) fr rfl rfl rfl (by simp) rfl (by first | decide | simp) (fun hg => x_load1 pl4 rfl ((fr.ev rfl).trans (onlyIf_t hg)) (B90.cell 2 rfl)) ?_
        clear fr a; intro a fr
        refine fx_val (v := .bool ((((entOf T9.1.E ((k : Nat) : Int).toNat).sh).a) || (((entOf T9.1.E ((k : Nat) : Int).toNat).sh).b))) fr rfl rfl (by first | decide | simp) (x_pick_or rfl (fr.ev rfl) (fun _ => rfl) (fun hb => ((fr.ev rfl)).trans (onlyIf_t (by simp_all))) rfl) ?_
        clear fr a; intro a fr
        refine fx_val (v := .bool ((((entOf T9.1.E ((k : Nat) : Int).toNat).sh).a) || (((entOf T9.1.E ((k : Nat) : Int).toNat).sh).b))) fr rfl rfl (by first | decide | simp) (x_move rfl (fr.ev rfl)) ?_
        clear fr a; intro a fr
        refine fx_may (g := !((((entOf T9.1.E ((k : Nat) : Int).toNat).sh).a) || (((entOf T9.1.E ((k : Nat) : Int).toNat).sh).b))) (v := .pointer (some ⟨b87, 1, none⟩)) fr rfl rfl rfl (by simp) rfl (by first | decide | simp) (fun hg => x_fieldAddr fo42_1 rfl (fr.ev rfl) rfl) ?_
        clear fr a; intro a fr
        refine fx_may (g := !((((entOf T9.1.E ((k : Nat) : Int).toNat).sh).a) || (((entOf T9.1.E ((k : Nat) : Int).toNat).sh).b))) (v := .pointer (some ⟨b87, 3, none⟩)) fr rfl rfl rfl (by simp) rfl (by first | decide | simp) (fun hg => x_indexArr Try.underlying40 sz4 rfl ((fr.ev rfl).trans (onlyIf_t hg)) (show _ = Value.int .i64 ((2 : Nat) : Int) from rfl) (by decide) (by decide)) ?_
        clear fr a; intro a fr
        refine fx_may (g := !((((entOf T9.1.E ((k : Nat) : Int).toNat).sh).a) || (((entOf T9.1.E ((k : Nat) : Int).toNat).sh).b))) (v := .bool (((entOf T9.1.E ((k : Nat) : Int).toNat).sh).c)) fr rfl rfl rfl (by simp) rfl (by first | decide | simp) (fun hg => x_load1 pl4 rfl ((fr.ev rfl).trans (onlyIf_t hg)) (B90.cell 3 rfl)) ?_
        clear fr a; intro a fr
        refine fx_val (v := .bool (((((entOf T9.1.E ((k : Nat) : Int).toNat).sh).a) || (((entOf T9.1.E ((k : Nat) : Int).toNat).sh).b)) || (((entOf T9.1.E ((k : Nat) : Int).toNat).sh).c))) fr rfl rfl (by first | decide | simp) (x_pick_or rfl (fr.ev rfl) (fun _ => rfl) (fun hb => ((fr.ev rfl)).trans (onlyIf_t (by simp_all))) rfl) ?_
        clear fr a; intro a fr
        refine fx_val (v := .bool (((((entOf T9.1.E ((k : Nat) : Int).toNat).sh).a) || (((entOf T9.1.E ((k : Nat) : Int).toNat).sh).b)) || (((entOf T9.1.E ((k : Nat) : Int).toNat).sh).c))) fr rfl rfl (by first | decide | simp) (x_move rfl (fr.ev rfl)) ?_
        clear fr a; intro a fr
        refine fx_may (g := !(((((entOf T9.1.E ((k : Nat) : Int).toNat).sh).a) || (((entOf T9.1.E ((k : Nat) : Int).toNat).sh).b)) || (((entOf T9.1.E ((k : Nat) : Int).toNat).sh).c))) (v := .pointer (some ⟨b87, 1, none⟩)) fr rfl rfl rfl (by simp) rfl (by first | decide | simp) (fun hg => x_fieldAddr fo42_1 rfl (fr.ev rfl) rfl) ?_
        clear fr a; intro a fr
        refine fx_may (g := !(((((entOf T9.1.E ((k : Nat) : Int).toNat).sh).a) || (((entOf T9.1.E ((k : Nat) : Int).toNat).sh).b)) || (((entOf T9.1.E ((k : Nat) : Int).toNat).sh).c))) (v := .pointer (some ⟨b87, 4, none⟩)) fr rfl rfl rfl (by simp) rfl (by first | decide | simp) (fun hg => x_indexArr Try.underlying40 sz4 rfl ((fr.ev rfl).trans (onlyIf_t hg)) (show _ = Value.int .i64 ((3 : Nat) : Int) from rfl) (by decide) (by decide)) ?_
        clear fr a; intro a fr
        refine fx_may (g := !(((((entOf T9.1.E ((k : Nat) : Int).toNat).sh).a) || (((entOf T9.1.E ((k : Nat) : Int).toNat).sh).b)) || (((entOf T9.1.E ((k : Nat) : Int).toNat).sh).c))) (v := .bool (((entOf T9.1.E ((k : Nat) : Int).toNat).sh).d)) fr rfl rfl rfl (by simp) rfl (by first | decide | simp) (fun hg => x_load1 pl4 rfl ((fr.ev rfl).trans (onlyIf_t hg)) (B90.cell 4 rfl)) ?_
        clear fr a; intro a fr
        refine fx_val (v := .bool ((((((entOf T9.1.E ((k : Nat) : Int).toNat).sh).a) || (((entOf T9.1.E ((k : Nat) : Int).toNat).sh).b)) || (((entOf T9.1.E ((k : Nat) : Int).toNat).sh).c)) || (((entOf T9.1.E ((k : Nat) : Int).toNat).sh).d))) fr rfl rfl (by first | decide | simp) (x_pick_or rfl (fr.ev rfl) (fun _ => rfl) (fun hb => ((fr.ev rfl)).trans (onlyIf_t (by simp_all))) rfl) ?_
        clear fr a; intro a fr
        refine fx_val (v := .bool ((((((entOf T9.1.E ((k : Nat) : Int).toNat).sh).a) || (((entOf T9.1.E ((k : Nat) : Int).toNat).sh).b)) || (((entOf T9.1.E ((k : Nat) : Int).toNat).sh).c)) || (((entOf T9.1.E ((k : Nat) : Int).toNat).sh).d))) fr rfl rfl (by first | decide | simp) (x_assign rfl (fr.ev rfl)) ?_
        clear fr a; intro a fr
        refine wpList_nil ?_
        refine fx_next ?_
        refine wp_seq ?_
        refine wp_region_lit ?_  -- region 16
        refine fx_val (v := .pointer (some ⟨b87, 0, none⟩)) fr rfl rfl (by first | decide | simp) (x_fieldAddr fo42_0 rfl (fr.ev rfl) rfl) ?_
        clear fr a; intro a fr
        refine fx_val (v := .int .i64 ((entOf T9.1.E ((k : Nat) : Int).toNat).o)) fr rfl rfl (by first | decide | simp) (x_load1 pl3 rfl (fr.ev rfl) (B90.cell 0 rfl)) ?_
        clear fr a; intro a fr
        refine fx_val (v := .bool false) fr rfl rfl (by first | decide | simp) (x_geq rfl (fr.ev rfl) rfl (decide_eq_false ho)) ?_
        clear fr a; intro a fr
        refine fx_val (v := .bool false) fr rfl rfl (by first | decide | simp) (x_move rfl (fr.ev rfl)) ?_
        clear fr a; intro a fr
        refine fx_skip fr (fr.unwant rfl rfl rfl (by decide)) rfl (by first | decide | simp) ?_
        clear fr a; intro a fr
        refine fx_val (v := .bool false) fr rfl rfl (by first | decide | simp) (x_pick_f rfl (fr.ev rfl) rfl) ?_
        clear fr a; intro a fr
        refine fx_val (v := .bool false) fr rfl rfl (by first | decide | simp) (x_move rfl (fr.ev rfl)) ?_
        clear fr a; intro a fr
        refine fx_val (v := .pointer (some ⟨b87, 0, none⟩)) fr (fr.want rfl rfl rfl) rfl (by first | decide | simp) (x_fieldAddr fo42_0 rfl (fr.ev rfl) rfl) ?_
        clear fr a; intro a fr
        refine fx_val (v := .int .i64 ((entOf T9.1.E ((k : Nat) : Int).toNat).o)) fr (fr.want rfl rfl rfl) rfl (by first | decide | simp) (x_load1 pl3 rfl (fr.ev rfl) (B90.cell 0 rfl)) ?_
        clear fr a; intro a fr
        refine fx_val (v := .bool false) fr (fr.want rfl rfl rfl) rfl (by first | decide | simp) (x_lss rfl (fr.ev rfl) rfl (decide_eq_false ho1)) ?_
        clear fr a; intro a fr
        refine fx_val (v := .bool false) fr rfl rfl (by first | decide | simp) (x_pick_f rfl (fr.ev rfl) (fr.ev rfl)) ?_
        clear fr a; intro a fr
        refine fx_val (v := .bool false) fr rfl rfl (by first | decide | simp) (x_move rfl (fr.ev rfl)) ?_
        clear fr a; intro a fr
        refine fx_val (v := .pointer (some ⟨b87, 0, none⟩)) fr (fr.want rfl rfl rfl) rfl (by first | decide | simp) (x_fieldAddr fo42_0 rfl (fr.ev rfl) rfl) ?_
        clear fr a; intro a fr
        refine fx_val (v := .int .i64 ((entOf T9.1.E ((k : Nat) : Int).toNat).o)) fr (fr.want rfl rfl rfl) rfl (by first | decide | simp) (x_load1 pl3 rfl (fr.ev rfl) (B90.cell 0 rfl)) ?_
        clear fr a; intro a fr
        refine fx_val (v := .bool false) fr (fr.want rfl rfl rfl) rfl (by first | decide | simp) (x_geq rfl (fr.ev rfl) rfl (decide_eq_false ho4)) ?_
        clear fr a; intro a fr
        refine fx_val (v := .bool false) fr rfl rfl (by first | decide | simp) (x_pick_f rfl (fr.ev rfl) (fr.ev rfl)) ?_
        clear fr a; intro a fr
        refine fx_val (v := .bool false) fr rfl rfl (by first | decide | simp) (x_move rfl (fr.ev rfl)) ?_
        clear fr a; intro a fr
        refine fx_val (v := .pointer (some ⟨b87, 5, none⟩)) fr (fr.want rfl rfl rfl) rfl (by first | decide | simp) (x_fieldAddr fo42_2 rfl (fr.ev rfl) rfl) ?_
        clear fr a; intro a fr
        refine fx_val (v := .bool true) fr (fr.want rfl rfl rfl) rfl (by first | decide | simp) (x_load1 pl4 rfl (fr.ev rfl) ((show _ = some (Value.bool ((entOf T9.1.E ((k : Nat) : Int).toNat).busy)) from (B90.cell 5 rfl)).trans (by rw [hb]))) ?_
        clear fr a; intro a fr
        refine fx_val (v := .bool false) fr (fr.want rfl rfl rfl) rfl (by first | decide | simp) (x_not rfl (fr.ev rfl) rfl) ?_
        clear fr a; intro a fr
        refine fx_val (v := .bool false) fr (fr.want rfl rfl rfl) rfl (by first | decide | simp) (x_move rfl (fr.ev rfl)) ?_
        clear fr a; intro a fr
        refine fx_skip fr (fr.unwant rfl rfl rfl (by decide)) rfl (by first | decide | simp) ?_
        clear fr a; intro a fr
        refine fx_skip fr (fr.unwant rfl rfl rfl (by decide)) rfl (by first | decide | simp) ?_
        clear fr a; intro a fr
        refine fx_skip fr (fr.unwant rfl rfl rfl (by decide)) rfl (by first | decide | simp) ?_
        clear fr a; intro a fr
        refine fx_skip fr (fr.unwant rfl rfl rfl (by decide)) rfl (by first | decide | simp) ?_
        clear fr a; intro a fr
        refine fx_skip fr (fr.unwant_u rfl rfl rfl) rfl (by first | decide | simp) ?_
        clear fr a; intro a fr
        refine fx_skip fr (fr.unwant_u rfl rfl rfl) rfl (by first | decide | simp) ?_
        clear fr a; intro a fr
        refine fx_skip fr (fr.unwant rfl rfl rfl (by decide)) rfl (by first | decide | simp) ?_
        clear fr a; intro a fr
        refine fx_skip fr (fr.unwant rfl rfl rfl (by decide)) rfl (by first | decide | simp) ?_
        clear fr a; intro a fr
        refine fx_skip fr (fr.unwant_u rfl rfl rfl) rfl (by first | decide | simp) ?_
        clear fr a; intro a fr
        refine fx_skip fr (fr.unwant_u rfl rfl rfl) rfl (by first | decide | simp) ?_
        clear fr a; intro a fr
        refine fx_skip fr (fr.unwant_u rfl rfl rfl) rfl (by first | decide | simp) ?_
        clear fr a; intro a fr
        refine fx_skip fr (fr.unwant_u rfl rfl rfl) rfl (by first | decide | simp) ?_
        clear fr a; intro a fr
        refine fx_skip fr (fr.unwant rfl rfl rfl (by decide)) rfl (by first | decide | simp) ?_
        clear fr a; intro a fr
        refine fx_val (v := .bool false) fr (fr.want rfl rfl rfl) rfl (by first | decide | simp) (x_pick_f rfl (fr.ev rfl) rfl) ?_
        clear fr a; intro a fr
        refine fx_val (v := .bool false) fr rfl rfl (by first | decide | simp) (x_pick_f rfl (fr.ev rfl) (fr.ev rfl)) ?_
        clear fr a; intro a fr
        refine fx_val (v := .bool false) fr rfl rfl (by first | decide | simp) (x_move rfl (fr.ev rfl)) ?_
        clear fr a; intro a fr
        refine fx_val (v := .int .i64 T9.2.2) fr (fr.want rfl rfl rfl) rfl (by first | decide | simp) (x_move rfl (fr.ev rfl)) ?_
        clear fr a; intro a fr
        refine fx_val (v := .bool false) fr (fr.want rfl rfl rfl) rfl (by first | decide | simp) (x_neq rfl (fr.ev rfl) rfl (decide_eq_false he)) ?_
        clear fr a; intro a fr
        refine fx_val (v := .bool false) fr (fr.want rfl rfl rfl) rfl (by first | decide | simp) (x_move rfl (fr.ev rfl)) ?_
        clear fr a; intro a fr
        refine fx_skip fr (fr.unwant rfl rfl rfl (by decide)) rfl (by first | decide | simp) ?_
        clear fr a; intro a fr
        refine fx_skip fr (fr.unwant rfl rfl rfl (by decide)) rfl (by first | decide | simp) ?_
        clear fr a; intro a fr
        refine fx_skip fr (fr.unwant rfl rfl rfl (by decide)) rfl (by first | decide | simp) ?_
        clear fr a; intro a fr
        refine fx_skip fr (fr.unwant rfl rfl rfl (by decide)) rfl (by first | decide | simp) ?_
        clear fr a; intro a fr
        refine fx_val (v := .bool false) fr (fr.want rfl rfl rfl) rfl (by first | decide | simp) (x_pick_f rfl (fr.ev rfl) rfl) ?_
        clear fr a; intro a fr
        refine fx_val (v := .bool false) fr rfl rfl (by first | decide | simp) (x_pick_f rfl (fr.ev rfl) (fr.ev rfl)) ?_
        clear fr a; intro a fr
        refine wpList_nil ?_
        refine fx_next ?_
        refine fx_cond_f fr rfl ?_
        refine wp_skip ?_
        refine fx_blk ?_
        refine fx_next ?_
        refine wp_region_lit ?_  -- region 6
        refine fx_val (v := .int .i64 ((i : Nat) : Int)) fr rfl rfl (by first | decide | simp) (x_move rfl (fr.ev rfl)) ?_
        clear fr a; intro a fr
        refine fx_val (v := .int .i64 ((i + 1 : Nat) : Int)) fr rfl rfl (by first | decide | simp) (x_add rfl (fr.ev rfl) rfl (i64w (r := ((i + 1 : Nat) : Int)) (by omega) (by omega))) ?_
        clear fr a; intro a fr
        refine fx_val (v := .int .i64 ((i + 1 : Nat) : Int)) fr rfl rfl (by first | decide | simp) (x_assign rfl (fr.ev rfl)) ?_
        clear fr a; intro a fr
        refine wpList_nil ?_
        refine fx_next ?_
        exact ⟨_, by omega, (i + 1), T9.1, Fp58, rfl, fr.sub ⟨rfl, rfl, rfl, rfl, trivial⟩, hF, hV, hL, H61, by omega, hHI2, hTl.trans hEl, (symP ap2_Fp58_A), (symP ap2_Fp58_C), gA_Fp58⟩
      · skip
        have hw0 := (hEI.idle hb).1
        have ht0 := (hEI.idle hb).2
        have hq0 := hNQ hb
        have hq1 : ¬ 0 < (((entOf T9.1.E ((k : Nat) : Int).toNat).q.length : Nat) : Int) := by rw [hq0]; decide
        have hw1 : ¬ (entOf T9.1.E ((k : Nat) : Int).toNat).waits ≠ 0 := fun h => h hw0
        have hDX : (entOf hd.E ((k : Nat) : Int).toNat) = (entOf T9.1.E ((k : Nat) : Int).toNat) := by rw [href he]
        refine wp_region_lit ?_  -- region 15
        refine fx_val (v := .pointer (some ⟨b87, 1, none⟩)) fr rfl rfl (by first | decide | simp) (x_fieldAddr fo42_1 rfl (fr.ev rfl) rfl) ?_
        clear fr a; intro a fr
        refine fx_val (v := .pointer (some ⟨b87, 1, none⟩)) fr rfl rfl (by first | decide | simp) (x_indexArr Try.underlying40 sz4 rfl (fr.ev rfl) (show _ = Value.int .i64 ((0 : Nat) : Int) from rfl) (by decide) (by decide)) ?_
        clear fr a; intro a fr
        refine fx_val (v := .bool (((entOf T9.1.E ((k : Nat) : Int).toNat).sh).a)) fr rfl rfl (by first | decide | simp) (x_load1 pl4 rfl (fr.ev rfl) (B90.cell 1 rfl)) ?_
        clear fr a; intro a fr
        refine fx_val (v := .bool (((entOf T9.1.E ((k : Nat) : Int).toNat).sh).a)) fr rfl rfl (by first | decide | simp) (x_move rfl (fr.ev rfl)) ?_
        clear fr a; intro a fr
        refine fx_may (g := !(((entOf T9.1.E ((k : Nat) : Int).toNat).sh).a)) (v := .pointer (some ⟨b87, 1, none⟩)) fr rfl rfl rfl (by simp) rfl (by first | decide | simp) (fun hg => x_fieldAddr fo42_1 rfl (fr.ev rfl) rfl) ?_
        clear fr a; intro a fr
        refine fx_may (g := !(((entOf T9.1.E ((k : Nat) : Int).toNat).sh).a)) (v := .pointer (some ⟨b87, 2, none⟩)) fr rfl rfl rfl (by simp) rfl (by first | decide | simp) (fun hg => x_indexArr Try.underlying40 sz4 rfl ((fr.ev rfl).trans (onlyIf_t hg)) (show _ = Value.int .i64 ((1 : Nat) : Int) from rfl) (by decide) (by decide)) ?_
        clear fr a; intro a fr
        refine fx_may (g := !(((entOf T9.1.E ((k : Nat) : Int).toNat).sh).a)) (v := .bool (((entOf T9.1.E ((k : Nat) : Int).toNat).sh).b)) fr rfl rfl rfl (by simp) rfl (by first | decide | simp) (fun hg => x_load1 pl4 rfl ((fr.ev rfl).trans (onlyIf_t hg)) (B90.cell 2 rfl)) ?_
        clear fr a; intro a fr
        refine fx_val (v := .bool ((((entOf T9.1.E ((k : Nat) : Int).toNat).sh).a) || (((entOf T9.1.E ((k : Nat) : Int).toNat).sh).b))) fr rfl rfl (by first | decide | simp) (x_pick_or rfl (fr.ev rfl) (fun _ => rfl) (fun hb => ((fr.ev rfl)).trans (onlyIf_t (by simp_all))) rfl) ?_
        clear fr a; intro a fr
        refine fx_val (v := .bool ((((entOf T9.1.E ((k : Nat) : Int).toNat).sh).a) || (((entOf T9.1.E ((k : Nat) : Int).toNat).sh).b))) fr rfl rfl (by first | decide | simp) (x_move rfl (fr.ev rfl)) ?_
        clear fr a; intro a fr
        refine fx_may (g := !((((entOf T9.1.E ((k : Nat) : Int).toNat).sh).a) || (((entOf T9.1.E ((k : Nat) : Int).toNat).sh).b))) (v := .pointer (some ⟨b87, 1, none⟩)) fr rfl rfl rfl (by simp) rfl (by first | decide | simp) (fun hg => x_fieldAddr fo42_1 rfl (fr.ev rfl) rfl) ?_
        clear fr a; intro a fr
        refine fx_may (g := !((((entOf T9.1.E ((k : Nat) : Int).toNat).sh).a) || (((entOf T9.1.E ((k : Nat) : Int).toNat).sh).b))) (v := .pointer (some ⟨b87, 3, none⟩)) fr rfl rfl rfl (by simp) rfl (by first | decide | simp) (fun hg => x_indexArr Try.underlying40 sz4 rfl ((fr.ev rfl).trans (onlyIf_t hg)) (show _ = Value.int .i64 ((2 : Nat) : Int) from rfl) (by decide) (by decide)) ?_
        clear fr a; intro a fr
        refine fx_may (g := !((((entOf T9.1.E ((k : Nat) : Int).toNat).sh).a) || (((entOf T9.1.E ((k : Nat) : Int).toNat).sh).b))) (v := .bool (((entOf T9.1.E ((k : Nat) : Int).toNat).sh).c)) fr rfl rfl rfl (by simp) rfl (by first | decide | simp) (fun hg => x_load1 pl4 rfl ((fr.ev rfl).trans (onlyIf_t hg)) (B90.cell 3 rfl)) ?_
        clear fr a; intro a fr
        refine fx_val (v := .bool (((((entOf T9.1.E ((k : Nat) : Int).toNat).sh).a) || (((entOf T9.1.E ((k : Nat) : Int).toNat).sh).b)) || (((entOf T9.1.E ((k : Nat) : Int).toNat).sh).c))) fr rfl rfl (by first | decide | simp) (x_pick_or rfl (fr.ev rfl) (fun _ => rfl) (fun hb => ((fr.ev rfl)).trans (onlyIf_t (by simp_all))) rfl) ?_
        clear fr a; intro a fr
        refine fx_val (v := .bool (((((entOf T9.1.E ((k : Nat) : Int).toNat).sh).a) || (((entOf T9.1.E ((k : Nat) : Int).toNat).sh).b)) || (((entOf T9.1.E ((k : Nat) : Int).toNat).sh).c))) fr rfl rfl (by first | decide | simp) (x_move rfl (fr.ev rfl)) ?_
        clear fr a; intro a fr
        refine fx_may (g := !(((((entOf T9.1.E ((k : Nat) : Int).toNat).sh).a) || (((entOf T9.1.E ((k : Nat) : Int).toNat).sh).b)) || (((entOf T9.1.E ((k : Nat) : Int).toNat).sh).c))) (v := .pointer (some ⟨b87, 1, none⟩)) fr rfl rfl rfl (by simp) rfl (by first | decide | simp) (fun hg => x_fieldAddr fo42_1 rfl (fr.ev rfl) rfl) ?_
        clear fr a; intro a fr
        refine fx_may (g := !(((((entOf T9.1.E ((k : Nat) : Int).toNat).sh).a) || (((entOf T9.1.E ((k : Nat) : Int).toNat).sh).b)) || (((entOf T9.1.E ((k : Nat) : Int).toNat).sh).c))) (v := .pointer (some ⟨b87, 4, none⟩)) fr rfl rfl rfl (by simp) rfl (by first | decide | simp) (fun hg => x_indexArr Try.underlying40 sz4 rfl ((fr.ev rfl).trans (onlyIf_t hg)) (show _ = Value.int .i64 ((3 : Nat) : Int) from rfl) (by decide) (by decide)) ?_
        clear fr a; intro a fr
        refine fx_may (g := !(((((entOf T9.1.E ((k : Nat) : Int).toNat).sh).a) || (((entOf T9.1.E ((k : Nat) : Int).toNat).sh).b)) || (((entOf T9.1.E ((k : Nat) : Int).toNat).sh).c))) (v := .bool (((entOf T9.1.E ((k : Nat) : Int).toNat).sh).d)) fr rfl rfl rfl (by simp) rfl (by first | decide | simp) (fun hg => x_load1 pl4 rfl ((fr.ev rfl).trans (onlyIf_t hg)) (B90.cell 4 rfl)) ?_
        clear fr a; intro a fr
        refine fx_val (v := .bool ((((((entOf T9.1.E ((k : Nat) : Int).toNat).sh).a) || (((entOf T9.1.E ((k : Nat) : Int).toNat).sh).b)) || (((entOf T9.1.E ((k : Nat) : Int).toNat).sh).c)) || (((entOf T9.1.E ((k : Nat) : Int).toNat).sh).d))) fr rfl rfl (by first | decide | simp) (x_pick_or rfl (fr.ev rfl) (fun _ => rfl) (fun hb => ((fr.ev rfl)).trans (onlyIf_t (by simp_all))) rfl) ?_
        clear fr a; intro a fr
        refine fx_val (v := .bool ((((((entOf T9.1.E ((k : Nat) : Int).toNat).sh).a) || (((entOf T9.1.E ((k : Nat) : Int).toNat).sh).b)) || (((entOf T9.1.E ((k : Nat) : Int).toNat).sh).c)) || (((entOf T9.1.E ((k : Nat) : Int).toNat).sh).d))) fr rfl rfl (by first | decide | simp) (x_assign rfl (fr.ev rfl)) ?_
        clear fr a; intro a fr
        refine wpList_nil ?_
        refine fx_next ?_
        refine wp_seq ?_
        refine wp_region_lit ?_  -- region 16
        refine fx_val (v := .pointer (some ⟨b87, 0, none⟩)) fr rfl rfl (by first | decide | simp) (x_fieldAddr fo42_0 rfl (fr.ev rfl) rfl) ?_
        clear fr a; intro a fr
        refine fx_val (v := .int .i64 ((entOf T9.1.E ((k : Nat) : Int).toNat).o)) fr rfl rfl (by first | decide | simp) (x_load1 pl3 rfl (fr.ev rfl) (B90.cell 0 rfl)) ?_
        clear fr a; intro a fr
        refine fx_val (v := .bool false) fr rfl rfl (by first | decide | simp) (x_geq rfl (fr.ev rfl) rfl (decide_eq_false ho)) ?_
        clear fr a; intro a fr
        refine fx_val (v := .bool false) fr rfl rfl (by first | decide | simp) (x_move rfl (fr.ev rfl)) ?_
        clear fr a; intro a fr
        refine fx_skip fr (fr.unwant rfl rfl rfl (by decide)) rfl (by first | decide | simp) ?_
        clear fr a; intro a fr
        refine fx_val (v := .bool false) fr rfl rfl (by first | decide | simp) (x_pick_f rfl (fr.ev rfl) rfl) ?_
        clear fr a; intro a fr
        refine fx_val (v := .bool false) fr rfl rfl (by first | decide | simp) (x_move rfl (fr.ev rfl)) ?_
        clear fr a; intro a fr
        refine fx_val (v := .pointer (some ⟨b87, 0, none⟩)) fr (fr.want rfl rfl rfl) rfl (by first | decide | simp) (x_fieldAddr fo42_0 rfl (fr.ev rfl) rfl) ?_
        clear fr a; intro a fr
        refine fx_val (v := .int .i64 ((entOf T9.1.E ((k : Nat) : Int).toNat).o)) fr (fr.want rfl rfl rfl) rfl (by first | decide | simp) (x_load1 pl3 rfl (fr.ev rfl) (B90.cell 0 rfl)) ?_
        clear fr a; intro a fr
        refine fx_val (v := .bool false) fr (fr.want rfl rfl rfl) rfl (by first | decide | simp) (x_lss rfl (fr.ev rfl) rfl (decide_eq_false ho1)) ?_
        clear fr a; intro a fr
        refine fx_val (v := .bool false) fr rfl rfl (by first | decide | simp) (x_pick_f rfl (fr.ev rfl) (fr.ev rfl)) ?_
        clear fr a; intro a fr
        refine fx_val (v := .bool false) fr rfl rfl (by first | decide | simp) (x_move rfl (fr.ev rfl)) ?_
        clear fr a; intro a fr
        refine fx_val (v := .pointer (some ⟨b87, 0, none⟩)) fr (fr.want rfl rfl rfl) rfl (by first | decide | simp) (x_fieldAddr fo42_0 rfl (fr.ev rfl) rfl) ?_
        clear fr a; intro a fr
        refine fx_val (v := .int .i64 ((entOf T9.1.E ((k : Nat) : Int).toNat).o)) fr (fr.want rfl rfl rfl) rfl (by first | decide | simp) (x_load1 pl3 rfl (fr.ev rfl) (B90.cell 0 rfl)) ?_
        clear fr a; intro a fr
        refine fx_val (v := .bool false) fr (fr.want rfl rfl rfl) rfl (by first | decide | simp) (x_geq rfl (fr.ev rfl) rfl (decide_eq_false ho4)) ?_
        clear fr a; intro a fr
        refine fx_val (v := .bool false) fr rfl rfl (by first | decide | simp) (x_pick_f rfl (fr.ev rfl) (fr.ev rfl)) ?_
        clear fr a; intro a fr
        refine fx_val (v := .bool false) fr rfl rfl (by first | decide | simp) (x_move rfl (fr.ev rfl)) ?_
        clear fr a; intro a fr
        refine fx_val (v := .pointer (some ⟨b87, 5, none⟩)) fr (fr.want rfl rfl rfl) rfl (by first | decide | simp) (x_fieldAddr fo42_2 rfl (fr.ev rfl) rfl) ?_
        clear fr a; intro a fr
        refine fx_val (v := .bool false) fr (fr.want rfl rfl rfl) rfl (by first | decide | simp) (x_load1 pl4 rfl (fr.ev rfl) ((show _ = some (Value.bool ((entOf T9.1.E ((k : Nat) : Int).toNat).busy)) from (B90.cell 5 rfl)).trans (by rw [hb]))) ?_
        clear fr a; intro a fr
        refine fx_val (v := .bool true) fr (fr.want rfl rfl rfl) rfl (by first | decide | simp) (x_not rfl (fr.ev rfl) rfl) ?_
        clear fr a; intro a fr
        refine fx_val (v := .bool true) fr (fr.want rfl rfl rfl) rfl (by first | decide | simp) (x_move rfl (fr.ev rfl)) ?_
        clear fr a; intro a fr
        refine fx_val (v := .pointer (some ⟨b87, 8, none⟩)) fr (fr.want rfl rfl rfl) rfl (by first | decide | simp) (x_fieldAddr fo42_5 rfl (fr.ev rfl) rfl) ?_
        clear fr a; intro a fr
        refine fx_val (v := .int .i64 ((entOf T9.1.E ((k : Nat) : Int).toNat).waits)) fr (fr.want rfl rfl rfl) rfl (by first | decide | simp) (x_load1 pl3 rfl (fr.ev rfl) (B90.cell 8 rfl)) ?_
        clear fr a; intro a fr
        refine fx_val (v := .bool false) fr (fr.want rfl rfl rfl) rfl (by first | decide | simp) (x_neq rfl (fr.ev rfl) rfl (decide_eq_false hw1)) ?_
        clear fr a; intro a fr
        refine fx_val (v := .bool false) fr (fr.want rfl rfl rfl) rfl (by first | decide | simp) (x_move rfl (fr.ev rfl)) ?_
        clear fr a; intro a fr
        refine fx_val (v := .pointer (some ⟨b87, 9, none⟩)) fr (fr.want rfl rfl rfl) rfl (by first | decide | simp) (x_fieldAddr fo42_6 rfl (fr.ev rfl) rfl) ?_
        clear fr a; intro a fr
        refine fx_val (v := .bool false) fr (fr.want rfl rfl rfl) rfl (by first | decide | simp) (x_load1 pl4 rfl (fr.ev rfl) ((show _ = some (Value.bool ((entOf T9.1.E ((k : Nat) : Int).toNat).told)) from (B90.cell 9 rfl)).trans (by rw [ht0]))) ?_
        clear fr a; intro a fr
        refine fx_val (v := .bool false) fr (fr.want rfl rfl rfl) rfl (by first | decide | simp) (x_pick_f rfl (fr.ev rfl) (fr.ev rfl)) ?_
        clear fr a; intro a fr
        refine fx_val (v := .bool false) fr (fr.want rfl rfl rfl) rfl (by first | decide | simp) (x_move rfl (fr.ev rfl)) ?_
        clear fr a; intro a fr
        refine fx_val (v := .pointer (some ⟨b87, 10, none⟩)) fr (fr.want rfl rfl rfl) rfl (by first | decide | simp) (x_fieldAddr fo42_7 rfl (fr.ev rfl) rfl) ?_
        clear fr a; intro a fr
        refine fx_val (v := .slice Q81 ((entOf T9.1.E ((k : Nat) : Int).toNat).q.length) qc82) fr (fr.want rfl rfl rfl) rfl (by first | decide | simp) (x_load1 pl23 rfl (fr.ev rfl) (B90.cell 10 rfl)) ?_
        clear fr a; intro a fr
        refine fx_val (v := .int .i64 (((entOf T9.1.E ((k : Nat) : Int).toNat).q.length : Nat) : Int)) fr (fr.want rfl rfl rfl) rfl (by first | decide | simp) (x_len Try.underlying23 rfl (fr.ev rfl)) ?_
        clear fr a; intro a fr
        refine fx_val (v := .bool false) fr (fr.want rfl rfl rfl) rfl (by first | decide | simp) (x_gtr rfl (fr.ev rfl) rfl (decide_eq_false hq1)) ?_
        clear fr a; intro a fr
        refine fx_val (v := .bool false) fr (fr.want rfl rfl rfl) rfl (by first | decide | simp) (x_pick_f rfl (fr.ev rfl) (fr.ev rfl)) ?_
        clear fr a; intro a fr
        refine fx_val (v := .bool false) fr (fr.want rfl rfl rfl) rfl (by first | decide | simp) (x_pick_t rfl (fr.ev rfl) (fr.ev rfl)) ?_
        clear fr a; intro a fr
        refine fx_val (v := .bool false) fr rfl rfl (by first | decide | simp) (x_pick_f rfl (fr.ev rfl) (fr.ev rfl)) ?_
        clear fr a; intro a fr
        refine fx_val (v := .bool false) fr rfl rfl (by first | decide | simp) (x_move rfl (fr.ev rfl)) ?_
        clear fr a; intro a fr
        refine fx_val (v := .int .i64 T9.2.2) fr (fr.want rfl rfl rfl) rfl (by first | decide | simp) (x_move rfl (fr.ev rfl)) ?_
        clear fr a; intro a fr
        refine fx_val (v := .bool true) fr (fr.want rfl rfl rfl) rfl (by first | decide | simp) (x_neq rfl (fr.ev rfl) rfl (decide_eq_true he)) ?_
        clear fr a; intro a fr
        refine fx_val (v := .bool true) fr (fr.want rfl rfl rfl) rfl (by first | decide | simp) (x_move rfl (fr.ev rfl)) ?_
        clear fr a; intro a fr
        refine fx_val (v := .agg (entA (entOf hd.E ((k : Nat) : Int).toNat) (.slice Q43 ((entOf hd.E ((k : Nat) : Int).toNat).q.length) qc44))) fr (fr.want rfl rfl rfl) rfl (by first | decide | simp) (x_loadS ag42 rfl (fr.ev rfl) rfl B52.range) ?_
        clear fr a; intro a fr
        refine fx_val (v := .agg (entA (entOf T9.1.E ((k : Nat) : Int).toNat) (.slice Q81 ((entOf T9.1.E ((k : Nat) : Int).toNat).q.length) qc82))) fr (fr.want rfl rfl rfl) rfl (by first | decide | simp) (x_loadS ag42 rfl (fr.ev rfl) rfl B90.range) ?_
        clear fr a; intro a fr
        refine fx_call fr (fr.want rfl rfl rfl) rfl (by first | decide | simp) (x_call (vs := [.agg (entA (entOf hd.E ((k : Nat) : Int).toNat) (.slice Q43 ((entOf hd.E ((k : Nat) : Int).toNat).q.length) qc44)), .agg (entA (entOf T9.1.E ((k : Nat) : Int).toNat) (.slice Q81 ((entOf T9.1.E ((k : Nat) : Int).toNat).q.length) qc82))]) rfl rfl ⟨(fr.ev rfl), (fr.ev rfl), trivial⟩ Try.func14 nm14 rfl) (sament_c (d := (entOf hd.E ((k : Nat) : Int).toNat)) (e := (entOf T9.1.E ((k : Nat) : Int).toNat)) (OQ45.view) (OQ83.view)) ?_
        clear fr a
        rintro v w100 ⟨rfl, hN101⟩ a fr
        replace hV := hV.new hN101
        replace hL := hL.new hN101
        replace H30 := H30.new hN101
        replace OQ45 := OQ45.new hN101
        replace B52 := B52.new hN101
        replace H61 := H61.new hN101
        replace O59 := O59.new hN101
        replace OQ68 := OQ68.new hN101
        replace B75 := B75.new hN101
        replace OQ83 := OQ83.new hN101
        replace B90 := B90.new hN101
        replace hF := hF.trNew hN101
        rw [show decide ((entOf hd.E ((k : Nat) : Int).toNat) = (entOf T9.1.E ((k : Nat) : Int).toNat)) = true from decide_eq_true hDX] at fr
        refine fx_val (v := .bool false) fr (fr.want rfl rfl rfl) rfl (by first | decide | simp) (x_not rfl (fr.ev rfl) rfl) ?_
        clear fr a; intro a fr
        refine fx_val (v := .bool false) fr (fr.want rfl rfl rfl) rfl (by first | decide | simp) (x_pick_t rfl (fr.ev rfl) (fr.ev rfl)) ?_
        clear fr a; intro a fr
        refine fx_val (v := .bool false) fr rfl rfl (by first | decide | simp) (x_pick_f rfl (fr.ev rfl) (fr.ev rfl)) ?_
        clear fr a; intro a fr
        refine wpList_nil ?_
        refine fx_next ?_
        refine fx_cond_f fr rfl ?_
        refine wp_skip ?_
        refine fx_blk ?_
        refine fx_next ?_
        refine wp_region_lit ?_  -- region 6
        refine fx_val (v := .int .i64 ((i : Nat) : Int)) fr rfl rfl (by first | decide | simp) (x_move rfl (fr.ev rfl)) ?_
        clear fr a; intro a fr
        refine fx_val (v := .int .i64 ((i + 1 : Nat) : Int)) fr rfl rfl (by first | decide | simp) (x_add rfl (fr.ev rfl) rfl (i64w (r := ((i + 1 : Nat) : Int)) (by omega) (by omega))) ?_
        clear fr a; intro a fr
        refine fx_val (v := .int .i64 ((i + 1 : Nat) : Int)) fr rfl rfl (by first | decide | simp) (x_assign rfl (fr.ev rfl)) ?_
        clear fr a; intro a fr
        refine wpList_nil ?_
        refine fx_next ?_
        exact ⟨_, by omega, (i + 1), T9.1, Fp58, rfl, fr.sub ⟨rfl, rfl, rfl, rfl, trivial⟩, hF, hV, hL, H61, by omega, hHI2, hTl.trans hEl, (symP ap2_Fp58_A), (symP ap2_Fp58_C), gA_Fp58⟩
      · skip
        have hw0 := (hEI.idle hb).1
        have ht0 := (hEI.idle hb).2
        have hq0 := hNQ hb
        have hq1 : ¬ 0 < (((entOf T9.1.E ((k : Nat) : Int).toNat).q.length : Nat) : Int) := by rw [hq0]; decide
        have hw1 : ¬ (entOf T9.1.E ((k : Nat) : Int).toNat).waits ≠ 0 := fun h => h hw0
        refine wp_region_lit ?_  -- region 15
        refine fx_val (v := .pointer (some ⟨b87, 1, none⟩)) fr rfl rfl (by first | decide | simp) (x_fieldAddr fo42_1 rfl (fr.ev rfl) rfl) ?_
        clear fr a; intro a fr
        refine fx_val (v := .pointer (some ⟨b87, 1, none⟩)) fr rfl rfl (by first | decide | simp) (x_indexArr Try.underlying40 sz4 rfl (fr.ev rfl) (show _ = Value.int .i64 ((0 : Nat) : Int) from rfl) (by decide) (by decide)) ?_
        clear fr a; intro a fr
        refine fx_val (v := .bool (((entOf T9.1.E ((k : Nat) : Int).toNat).sh).a)) fr rfl rfl (by first | decide | simp) (x_load1 pl4 rfl (fr.ev rfl) (B90.cell 1 rfl)) ?_
        clear fr a; intro a fr
        refine fx_val (v := .bool (((entOf T9.1.E ((k : Nat) : Int).toNat).sh).a)) fr rfl rfl (by first | decide | simp) (x_move rfl (fr.ev rfl)) ?_
        clear fr a; intro a fr
        refine fx_may (g := !(((entOf T9.1.E ((k : Nat) : Int).toNat).sh).a)) (v := .pointer (some ⟨b87, 1, none⟩)) fr rfl rfl rfl (by simp) rfl (by first | decide | simp) (fun hg => x_fieldAddr fo42_1 rfl (fr.ev rfl) rfl) ?_
        clear fr a; intro a fr
        refine fx_may (g := !(((entOf T9.1.E ((k : Nat) : Int).toNat).sh).a)) (v := .pointer (some ⟨b87, 2, none⟩)) fr rfl rfl rfl (by simp) rfl (by first | decide | simp) (fun hg => x_indexArr Try.underlying40 sz4 rfl ((fr.ev rfl).trans (onlyIf_t hg)) (show _ = Value.int .i64 ((1 : Nat) : Int) from rfl) (by decide) (by decide)) ?_
        clear fr a; intro a fr
        refine fx_may (g := !(((entOf T9.1.E ((k : Nat) : Int).toNat).sh).a)) (v := .bool (((entOf T9.1.E ((k : Nat) : Int).toNat).sh).b)) fr rfl rfl rfl (by simp) rfl (by first | decide | simp) (fun hg => x_load1 pl4 rfl ((fr.ev rfl).trans (onlyIf_t hg)) (B90.cell 2 rfl)) ?_
        clear fr a; intro a fr
        refine fx_val (v := .bool ((((entOf T9.1.E ((k : Nat) : Int).toNat).sh).a) || (((entOf T9.1.E ((k : Nat) : Int).toNat).sh).b))) fr rfl rfl (by first | decide | simp) (x_pick_or rfl (fr.ev rfl) (fun _ => rfl) (fun hb => ((fr.ev rfl)).trans (onlyIf_t (by simp_all))) rfl) ?_
        clear fr a; intro a fr
        refine fx_val (v := .bool ((((entOf T9.1.E ((k : Nat) : Int).toNat).sh).a) || (((entOf T9.1.E ((k : Nat) : Int).toNat).sh).b))) fr rfl rfl (by first | decide | simp) (x_move rfl (fr.ev rfl)) ?_
        clear fr a; intro a fr
        refine fx_may (g := !((((entOf T9.1.E ((k : Nat) : Int).toNat).sh).a) || (((entOf T9.1.E ((k : Nat) : Int).toNat).sh).b))) (v := .pointer (some ⟨b87, 1, none⟩)) fr rfl rfl rfl (by simp) rfl (by first | decide | simp) (fun hg => x_fieldAddr fo42_1 rfl (fr.ev rfl) rfl) ?_
        clear fr a; intro a fr
        refine fx_may (g := !((((entOf T9.1.E ((k : Nat) : Int).toNat).sh).a) || (((entOf T9.1.E ((k : Nat) : Int).toNat).sh).b))) (v := .pointer (some ⟨b87, 3, none⟩)) fr rfl rfl rfl (by simp) rfl (by first | decide | simp) (fun hg => x_indexArr Try.underlying40 sz4 rfl ((fr.ev rfl).trans (onlyIf_t hg)) (show _ = Value.int .i64 ((2 : Nat) : Int) from rfl) (by decide) (by decide)) ?_
        clear fr a; intro a fr
        refine fx_may (g := !((((entOf T9.1.E ((k : Nat) : Int).toNat).sh).a) || (((entOf T9.1.E ((k : Nat) : Int).toNat).sh).b))) (v := .bool (((entOf T9.1.E ((k : Nat) : Int).toNat).sh).c)) fr rfl rfl rfl (by simp) rfl (by first | decide | simp) (fun hg => x_load1 pl4 rfl ((fr.ev rfl).trans (onlyIf_t hg)) (B90.cell 3 rfl)) ?_
        clear fr a; intro a fr
        refine fx_val (v := .bool (((((entOf T9.1.E ((k : Nat) : Int).toNat).sh).a) || (((entOf T9.1.E ((k : Nat) : Int).toNat).sh).b)) || (((entOf T9.1.E ((k : Nat) : Int).toNat).sh).c))) fr rfl rfl (by first | decide | simp) (x_pick_or rfl (fr.ev rfl) (fun _ => rfl) (fun hb => ((fr.ev rfl)).trans (onlyIf_t (by simp_all))) rfl) ?_
        clear fr a; intro a fr
        refine fx_val (v := .bool (((((entOf T9.1.E ((k : Nat) : Int).toNat).sh).a) || (((entOf T9.1.E ((k : Nat) : Int).toNat).sh).b)) || (((entOf T9.1.E ((k : Nat) : Int).toNat).sh).c))) fr rfl rfl (by first | decide | simp) (x_move rfl (fr.ev rfl)) ?_
        clear fr a; intro a fr
        refine fx_may (g := !(((((entOf T9.1.E ((k : Nat) : Int).toNat).sh).a) || (((entOf T9.1.E ((k : Nat) : Int).toNat).sh).b)) || (((entOf T9.1.E ((k : Nat) : Int).toNat).sh).c))) (v := .pointer (some ⟨b87, 1, none⟩)) fr rfl rfl rfl (by simp) rfl (by first | decide | simp) (fun hg => x_fieldAddr fo42_1 rfl (fr.ev rfl) rfl) ?_
        clear fr a; intro a fr
        refine fx_may (g := !(((((entOf T9.1.E ((k : Nat) : Int).toNat).sh).a) || (((entOf T9.1.E ((k : Nat) : Int).toNat).sh).b)) || (((entOf T9.1.E ((k : Nat) : Int).toNat).sh).c))) (v := .pointer (some ⟨b87, 4, none⟩)) fr rfl rfl rfl (by simp) rfl (by first | decide | simp) (fun hg => x_indexArr Try.underlying40 sz4 rfl ((fr.ev rfl).trans (onlyIf_t hg)) (show _ = Value.int .i64 ((3 : Nat) : Int) from rfl) (by decide) (by decide)) ?_
        clear fr a; intro a fr
        refine fx_may (g := !(((((entOf T9.1.E ((k : Nat) : Int).toNat).sh).a) || (((entOf T9.1.E ((k : Nat) : Int).toNat).sh).b)) || (((entOf T9.1.E ((k : Nat) : Int).toNat).sh).c))) (v := .bool (((entOf T9.1.E ((k : Nat) : Int).toNat).sh).d)) fr rfl rfl rfl (by simp) rfl (by first | decide | simp) (fun hg => x_load1 pl4 rfl ((fr.ev rfl).trans (onlyIf_t hg)) (B90.cell 4 rfl)) ?_
        clear fr a; intro a fr
        refine fx_val (v := .bool ((((((entOf T9.1.E ((k : Nat) : Int).toNat).sh).a) || (((entOf T9.1.E ((k : Nat) : Int).toNat).sh).b)) || (((entOf T9.1.E ((k : Nat) : Int).toNat).sh).c)) || (((entOf T9.1.E ((k : Nat) : Int).toNat).sh).d))) fr rfl rfl (by first | decide | simp) (x_pick_or rfl (fr.ev rfl) (fun _ => rfl) (fun hb => ((fr.ev rfl)).trans (onlyIf_t (by simp_all))) rfl) ?_
        clear fr a; intro a fr
        refine fx_val (v := .bool ((((((entOf T9.1.E ((k : Nat) : Int).toNat).sh).a) || (((entOf T9.1.E ((k : Nat) : Int).toNat).sh).b)) || (((entOf T9.1.E ((k : Nat) : Int).toNat).sh).c)) || (((entOf T9.1.E ((k : Nat) : Int).toNat).sh).d))) fr rfl rfl (by first | decide | simp) (x_assign rfl (fr.ev rfl)) ?_
        clear fr a; intro a fr
        refine wpList_nil ?_
        refine fx_next ?_
        refine wp_seq ?_
        refine wp_region_lit ?_  -- region 16
        refine fx_val (v := .pointer (some ⟨b87, 0, none⟩)) fr rfl rfl (by first | decide | simp) (x_fieldAddr fo42_0 rfl (fr.ev rfl) rfl) ?_
        clear fr a; intro a fr
        refine fx_val (v := .int .i64 ((entOf T9.1.E ((k : Nat) : Int).toNat).o)) fr rfl rfl (by first | decide | simp) (x_load1 pl3 rfl (fr.ev rfl) (B90.cell 0 rfl)) ?_
        clear fr a; intro a fr
        refine fx_val (v := .bool false) fr rfl rfl (by first | decide | simp) (x_geq rfl (fr.ev rfl) rfl (decide_eq_false ho)) ?_
        clear fr a; intro a fr
        refine fx_val (v := .bool false) fr rfl rfl (by first | decide | simp) (x_move rfl (fr.ev rfl)) ?_
        clear fr a; intro a fr
        refine fx_skip fr (fr.unwant rfl rfl rfl (by decide)) rfl (by first | decide | simp) ?_
        clear fr a; intro a fr
        refine fx_val (v := .bool false) fr rfl rfl (by first | decide | simp) (x_pick_f rfl (fr.ev rfl) rfl) ?_
        clear fr a; intro a fr
        refine fx_val (v := .bool false) fr rfl rfl (by first | decide | simp) (x_move rfl (fr.ev rfl)) ?_
        clear fr a; intro a fr
        refine fx_val (v := .pointer (some ⟨b87, 0, none⟩)) fr (fr.want rfl rfl rfl) rfl (by first | decide | simp) (x_fieldAddr fo42_0 rfl (fr.ev rfl) rfl) ?_
        clear fr a; intro a fr
        refine fx_val (v := .int .i64 ((entOf T9.1.E ((k : Nat) : Int).toNat).o)) fr (fr.want rfl rfl rfl) rfl (by first | decide | simp) (x_load1 pl3 rfl (fr.ev rfl) (B90.cell 0 rfl)) ?_
        clear fr a; intro a fr
        refine fx_val (v := .bool false) fr (fr.want rfl rfl rfl) rfl (by first | decide | simp) (x_lss rfl (fr.ev rfl) rfl (decide_eq_false ho1)) ?_
        clear fr a; intro a fr
        refine fx_val (v := .bool false) fr rfl rfl (by first | decide | simp) (x_pick_f rfl (fr.ev rfl) (fr.ev rfl)) ?_
        clear fr a; intro a fr
        refine fx_val (v := .bool false) fr rfl rfl (by first | decide | simp) (x_move rfl (fr.ev rfl)) ?_
        clear fr a; intro a fr
        refine fx_val (v := .pointer (some ⟨b87, 0, none⟩)) fr (fr.want rfl rfl rfl) rfl (by first | decide | simp) (x_fieldAddr fo42_0 rfl (fr.ev rfl) rfl) ?_
        clear fr a; intro a fr
        refine fx_val (v := .int .i64 ((entOf T9.1.E ((k : Nat) : Int).toNat).o)) fr (fr.want rfl rfl rfl) rfl (by first | decide | simp) (x_load1 pl3 rfl (fr.ev rfl) (B90.cell 0 rfl)) ?_
        clear fr a; intro a fr
        refine fx_val (v := .bool false) fr (fr.want rfl rfl rfl) rfl (by first | decide | simp) (x_geq rfl (fr.ev rfl) rfl (decide_eq_false ho4)) ?_
        clear fr a; intro a fr
        refine fx_val (v := .bool false) fr rfl rfl (by first | decide | simp) (x_pick_f rfl (fr.ev rfl) (fr.ev rfl)) ?_
        clear fr a; intro a fr
        refine fx_val (v := .bool false) fr rfl rfl (by first | decide | simp) (x_move rfl (fr.ev rfl)) ?_
        clear fr a; intro a fr
        refine fx_val (v := .pointer (some ⟨b87, 5, none⟩)) fr (fr.want rfl rfl rfl) rfl (by first | decide | simp) (x_fieldAddr fo42_2 rfl (fr.ev rfl) rfl) ?_
        clear fr a; intro a fr
        refine fx_val (v := .bool false) fr (fr.want rfl rfl rfl) rfl (by first | decide | simp) (x_load1 pl4 rfl (fr.ev rfl) ((show _ = some (Value.bool ((entOf T9.1.E ((k : Nat) : Int).toNat).busy)) from (B90.cell 5 rfl)).trans (by rw [hb]))) ?_
        clear fr a; intro a fr
        refine fx_val (v := .bool true) fr (fr.want rfl rfl rfl) rfl (by first | decide | simp) (x_not rfl (fr.ev rfl) rfl) ?_
        clear fr a; intro a fr
        refine fx_val (v := .bool true) fr (fr.want rfl rfl rfl) rfl (by first | decide | simp) (x_move rfl (fr.ev rfl)) ?_
        clear fr a; intro a fr
        refine fx_val (v := .pointer (some ⟨b87, 8, none⟩)) fr (fr.want rfl rfl rfl) rfl (by first | decide | simp) (x_fieldAddr fo42_5 rfl (fr.ev rfl) rfl) ?_
        clear fr a; intro a fr
        refine fx_val (v := .int .i64 ((entOf T9.1.E ((k : Nat) : Int).toNat).waits)) fr (fr.want rfl rfl rfl) rfl (by first | decide | simp) (x_load1 pl3 rfl (fr.ev rfl) (B90.cell 8 rfl)) ?_
        clear fr a; intro a fr
        refine fx_val (v := .bool false) fr (fr.want rfl rfl rfl) rfl (by first | decide | simp) (x_neq rfl (fr.ev rfl) rfl (decide_eq_false hw1)) ?_
        clear fr a; intro a fr
        refine fx_val (v := .bool false) fr (fr.want rfl rfl rfl) rfl (by first | decide | simp) (x_move rfl (fr.ev rfl)) ?_
        clear fr a; intro a fr
        refine fx_val (v := .pointer (some ⟨b87, 9, none⟩)) fr (fr.want rfl rfl rfl) rfl (by first | decide | simp) (x_fieldAddr fo42_6 rfl (fr.ev rfl) rfl) ?_
        clear fr a; intro a fr
        refine fx_val (v := .bool false) fr (fr.want rfl rfl rfl) rfl (by first | decide | simp) (x_load1 pl4 rfl (fr.ev rfl) ((show _ = some (Value.bool ((entOf T9.1.E ((k : Nat) : Int).toNat).told)) from (B90.cell 9 rfl)).trans (by rw [ht0]))) ?_
        clear fr a; intro a fr
        refine fx_val (v := .bool false) fr (fr.want rfl rfl rfl) rfl (by first | decide | simp) (x_pick_f rfl (fr.ev rfl) (fr.ev rfl)) ?_
        clear fr a; intro a fr
        refine fx_val (v := .bool false) fr (fr.want rfl rfl rfl) rfl (by first | decide | simp) (x_move rfl (fr.ev rfl)) ?_
        clear fr a; intro a fr
        refine fx_val (v := .pointer (some ⟨b87, 10, none⟩)) fr (fr.want rfl rfl rfl) rfl (by first | decide | simp) (x_fieldAddr fo42_7 rfl (fr.ev rfl) rfl) ?_
        clear fr a; intro a fr
        refine fx_val (v := .slice Q81 ((entOf T9.1.E ((k : Nat) : Int).toNat).q.length) qc82) fr (fr.want rfl rfl rfl) rfl (by first | decide | simp) (x_load1 pl23 rfl (fr.ev rfl) (B90.cell 10 rfl)) ?_
        clear fr a; intro a fr
        refine fx_val (v := .int .i64 (((entOf T9.1.E ((k : Nat) : Int).toNat).q.length : Nat) : Int)) fr (fr.want rfl rfl rfl) rfl (by first | decide | simp) (x_len Try.underlying23 rfl (fr.ev rfl)) ?_
        clear fr a; intro a fr
        refine fx_val (v := .bool false) fr (fr.want rfl rfl rfl) rfl (by first | decide | simp) (x_gtr rfl (fr.ev rfl) rfl (decide_eq_false hq1)) ?_
        clear fr a; intro a fr
        refine fx_val (v := .bool false) fr (fr.want rfl rfl rfl) rfl (by first | decide | simp) (x_pick_f rfl (fr.ev rfl) (fr.ev rfl)) ?_
        clear fr a; intro a fr
        refine fx_val (v := .bool false) fr (fr.want rfl rfl rfl) rfl (by first | decide | simp) (x_pick_t rfl (fr.ev rfl) (fr.ev rfl)) ?_
        clear fr a; intro a fr
        refine fx_val (v := .bool false) fr rfl rfl (by first | decide | simp) (x_pick_f rfl (fr.ev rfl) (fr.ev rfl)) ?_
        clear fr a; intro a fr
        refine fx_val (v := .bool false) fr rfl rfl (by first | decide | simp) (x_move rfl (fr.ev rfl)) ?_
        clear fr a; intro a fr
        refine fx_val (v := .int .i64 T9.2.2) fr (fr.want rfl rfl rfl) rfl (by first | decide | simp) (x_move rfl (fr.ev rfl)) ?_
        clear fr a; intro a fr
        refine fx_val (v := .bool false) fr (fr.want rfl rfl rfl) rfl (by first | decide | simp) (x_neq rfl (fr.ev rfl) rfl (decide_eq_false he)) ?_
        clear fr a; intro a fr
        refine fx_val (v := .bool false) fr (fr.want rfl rfl rfl) rfl (by first | decide | simp) (x_move rfl (fr.ev rfl)) ?_
        clear fr a; intro a fr
        refine fx_skip fr (fr.unwant rfl rfl rfl (by decide)) rfl (by first | decide | simp) ?_
        clear fr a; intro a fr
        refine fx_skip fr (fr.unwant rfl rfl rfl (by decide)) rfl (by first | decide | simp) ?_
        clear fr a; intro a fr
        refine fx_skip fr (fr.unwant rfl rfl rfl (by decide)) rfl (by first | decide | simp) ?_
        clear fr a; intro a fr
        refine fx_skip fr (fr.unwant rfl rfl rfl (by decide)) rfl (by first | decide | simp) ?_
        clear fr a; intro a fr
        refine fx_val (v := .bool false) fr (fr.want rfl rfl rfl) rfl (by first | decide | simp) (x_pick_f rfl (fr.ev rfl) rfl) ?_
        clear fr a; intro a fr
        refine fx_val (v := .bool false) fr rfl rfl (by first | decide | simp) (x_pick_f rfl (fr.ev rfl) (fr.ev rfl)) ?_
        clear fr a; intro a fr
        refine wpList_nil ?_
        refine fx_next ?_
        refine fx_cond_f fr rfl ?_
        refine wp_skip ?_
        refine fx_blk ?_
        refine fx_next ?_
        refine wp_region_lit ?_  -- region 6
        refine fx_val (v := .int .i64 ((i : Nat) : Int)) fr rfl rfl (by first | decide | simp) (x_move rfl (fr.ev rfl)) ?_
        clear fr a; intro a fr
        refine fx_val (v := .int .i64 ((i + 1 : Nat) : Int)) fr rfl rfl (by first | decide | simp) (x_add rfl (fr.ev rfl) rfl (i64w (r := ((i + 1 : Nat) : Int)) (by omega) (by omega))) ?_
        clear fr a; intro a fr
        refine fx_val (v := .int .i64 ((i + 1 : Nat) : Int)) fr rfl rfl (by first | decide | simp) (x_assign rfl (fr.ev rfl)) ?_
        clear fr a; intro a fr
        refine wpList_nil ?_
        refine fx_next ?_
        exact ⟨_, by omega, (i + 1), T9.1, Fp58, rfl, fr.sub ⟨rfl, rfl, rfl, rfl, trivial⟩, hF, hV, hL, H61, by omega, hHI2, hTl.trans hEl, (symP ap2_Fp58_A), (symP ap2_Fp58_C), gA_Fp58⟩
    · skip
      have hc27 := of_decide_eq_false hc27
      refine wp_exit ?_
      refine fx_xt ?_
      refine fx_xt ?_
      refine fx_xx ?_
      refine fx_next ?_
      refine wp_seq ?_
      refine wp_region_lit ?_  -- region 18
      refine fx_call fr rfl rfl (by first | decide | simp) (x_call (vs := []) rfl rfl trivial Try.func11 nm11 rfl) (known_c _) ?_
      clear fr a
      rintro v w102 ⟨rfl, hN103⟩ a fr
      replace hV := hV.new hN103
      replace hL := hL.new hN103
      replace HH := HH.new hN103
      replace hF := hF.trNew hN103
      refine fx_val (v := .bool true) fr rfl rfl (by first | decide | simp) (x_assign rfl (fr.ev rfl)) ?_
      clear fr a; intro a fr
      refine wpList_nil ?_
      refine fx_next ?_
      refine wp_ret ?_
      refine fx_ret fr [.tmp 4] [.bool true] rfl ⟨rfl, trivial⟩ rfl ?_
      exact ⟨_, rfl, rfl, hF⟩
end Go.Proofs.Ytdiaemlgghfecaa
namespace Go.Proofs.Ytdiaemlgghfecaa
open Go.RowKit Go.ChangeShapes Go.WideShapes Go.ChangeAt Go.Deep
section
variable {H : Type} {enc : TypeId × Value → H} {P : Program} {w : World} {base : Nat} {spare : Nat → Bool} {held : Bool} {fuel : Nat} {cs : List Value} {x : DataW H × List MemPlace}
theorem piece {q n : Nat} {a b : List Value} (h1 : (cs.drop q).take n = a) (h2 : cs.drop (q + n) = b) : cs.drop q = a ++ b := by
  rw [← h1, ← h2, ← List.drop_drop, List.take_append_drop]
theorem trod_ints {t e n : Nat} {k : IntKind} (ht : P.underlying t = some (.array n e)) (he : P.underlying e = some (.int k)) (hC : P.cellsOf e = 1) (hCt : P.cellsOf t = n) (h : DataW.trod enc P w base spare held fuel t cs = some x) :
    ∃ l : List Int, l.length = n ∧ cs = l.map (Value.int k) ∧ ∀ a ∈ l, (Lit.int k a).wf = true := by
  obtain ⟨xs, m, _, _, hl, hxl, hi⟩ := DataW.trod_array ht h
  rw [hC] at hi
  rw [hCt] at hl
  have hb : ∀ i, (h : i < cs.length) → ∃ a : Int, cs[i] = .int k a ∧ (Lit.int k a).wf = true := by
    intro i h
    have h2 := hi i (by omega)
    have e1 : (cs.drop (i * 1)).take 1 = [cs[i]] := by
      rw [Nat.mul_one, List.drop_eq_getElem_cons h]
      rfl
    rw [e1, List.getElem?_eq_getElem (show i < xs.length by omega)] at h2
    obtain ⟨a, e0, _, wa⟩ := DataW.trod_int he h2
    exact ⟨a, by simpa using e0, wa⟩
  obtain ⟨f, hf⟩ : ∃ f : (i : Fin cs.length) → Int, ∀ i : Fin cs.length, cs[i.1] = .int k (f i) ∧ (Lit.int k (f i)).wf = true := ⟨fun i => (hb i i.2).choose, fun i => (hb i i.2).choose_spec⟩
  refine ⟨List.ofFn f, by simp [hl], ?_, ?_⟩
  · apply List.ext_getElem
    · simp
    · intro i h1 h2
      rw [(hf ⟨i, h1⟩).1]
      simp
  · intro a ha
    obtain ⟨i, rfl⟩ := List.mem_ofFn.1 ha
    exact (hf i).2
theorem has_addr {r : Reach} {a : Addr} {e n : Nat} (h : w.has P r base a e n) : ∃ g o, a = ⟨g, o, none⟩ ∧ g < w.heap.size := by
  obtain ⟨_, h1, row, cells, h2, _⟩ := h
  obtain ⟨g, o, s⟩ := a
  subst h1
  refine ⟨g, o, rfl, ?_⟩
  unfold World.shape? at h2
  rcases Nat.lt_or_ge g w.heap.size with h | h
  · exact h
  · have : w.heap[g]? = none := Array.getElem?_eq_none h
    simp [this] at h2
theorem add_none (g o i : Nat) : (⟨g, o, none⟩ : Addr).add i = ⟨g, o + i, none⟩ := by
  unfold Addr.add
  by_cases h : i = 0 <;> simp [h]
theorem open_recs {α : Type} [DecidableEq α] {E : Enc P α} {OK : α → Prop} {t : TypeId} {r : Reach} {b0 : Nat} {v : Value} {d : DataW H} {p : List MemPlace} (ht : P.underlying t = some (.slice E.T)) (hC : P.cellsOf E.T = E.n)
    (hel : ∀ fuel cs x, DataW.trod enc P w base (fun _ => true) held fuel E.T cs = some x → ∃ m, OK m ∧ cs = E.cells m) (hv : Value.okWide P w r b0 t v) (h : DataW.Trod enc P w base (fun _ => true) held t v d p) :
    ∃ A cap l, v = .slice A l.length cap ∧ View E w A cap l ∧ ∀ m ∈ l, OK m := by
  obtain ⟨a0, len, cap, rfl⟩ := okWide_slice ht hv
  obtain ⟨fuel, hf⟩ := h
  rcases open_slice ht hf with ⟨hcs, _⟩ | ⟨a, l, c, m, n, D, Pl, hcs, _, hl, hm, hz, _, hcell⟩
  · simp [Value.cells] at hcs
    obtain ⟨rfl, rfl, rfl⟩ := hcs
    exact ⟨none, 0, [], rfl, View.nil, by simp⟩
  · simp [Value.cells] at hcs
    obtain ⟨rfl, rfl, rfl⟩ := hcs
    rw [if_pos rfl] at hz
    subst hz
    have hh : w.has P r b0 a E.T m := by
      unfold Value.okWide at hv
      rw [ht] at hv
      simp only [Cell.okWide, ht, Cell.ok] at hv
      exact hv.2.2
    obtain ⟨g, o, rfl, hg⟩ := has_addr hh
    rw [hC] at hcell
    have hb : ∀ i : Fin len, ∃ q : α, OK q ∧ w.rangeAt g (o + i.1 * E.n) (E.cells q) := by
      intro i
      obtain ⟨cs', h1, h2⟩ := hcell i.1 (by omega)
      obtain ⟨q, hq, rfl⟩ := hel _ _ _ h2
      obtain ⟨_, hcl, hat⟩ := World.cells?_some h1
      refine ⟨q, hq, fun j v hj => ?_⟩
      have hjl := (List.getElem?_eq_some_iff.1 hj).1
      have := hat j (by omega)
      rw [add_none, add_none] at this
      rw [this, hj]
    obtain ⟨f, hf⟩ : ∃ f : Fin len → α, ∀ i, OK (f i) ∧ w.rangeAt g (o + i.1 * E.n) (E.cells (f i)) := ⟨fun i => (hb i).choose, fun i => (hb i).choose_spec⟩
    refine ⟨some ⟨g, o, none⟩, m, List.ofFn f, by simp, ⟨by simp; omega, hm, .inr ⟨g, o, rfl, hg, fun j v hj => ?_⟩⟩, ?_⟩
    · have hjl := (List.getElem?_eq_some_iff.1 hj).1
      rw [flat_len, List.length_ofFn] at hjl
      have hn := E.pos
      have hq : j / E.n < len := (Nat.div_lt_iff_lt_mul hn).2 hjl
      have hr : j % E.n < E.n := Nat.mod_lt _ hn
      have hj2 : j / E.n * E.n + j % E.n = j := by rw [Nat.mul_comm]; exact Nat.div_add_mod j E.n
      have e1 := flat_drop (E := E) (List.ofFn f) (j / E.n) (by simpa using hq)
      have e2 : (E.cells (f ⟨j / E.n, hq⟩))[j % E.n]? = some v := by
        rw [List.getElem_ofFn] at e1
        rw [← e1, List.getElem?_take, if_pos hr, List.getElem?_drop, hj2]
        exact hj
      have := (hf ⟨j / E.n, hq⟩).2 (j % E.n) v e2
      rw [← this]
      show _ = w.cell? ⟨g, o + j / E.n * E.n + j % E.n, none⟩
      rw [Nat.add_assoc, hj2]
    · intro q hq
      obtain ⟨i, rfl⟩ := List.mem_ofFn.1 hq
      exact (hf i).1
end
end Go.Proofs.Ytdiaemlgghfecaa
namespace Go.Proofs.Ytdiaemlgghfecaa
open Go.RowKit Go.ChangeShapes Go.WideShapes Go.ChangeAt
section
variable {H : Type} {enc : TypeId × Value → H} {w : World} {base : Nat} {spare : Nat → Bool} {held : Bool} {fuel : Nat} {cs : List Value} {x : DataW H × List MemPlace}
theorem cellsMSG : Try.prog.cellsOf 36 = 20 := by kernel_rfl
theorem cellsKIND : Try.prog.cellsOf 33 = 1 := by kernel_rfl
theorem cellsU32 : Try.prog.cellsOf 24 = 1 := by kernel_rfl
theorem cellsARR : Try.prog.cellsOf 34 = 16 := by kernel_rfl
theorem cellsU8 : Try.prog.cellsOf 5 = 1 := by kernel_rfl
theorem cellsI64 : Try.prog.cellsOf 3 = 1 := by kernel_rfl
theorem wf_u32 {a : Int} (h : (Lit.int .u32 a).wf = true) : 0 ≤ a ∧ a < 4294967296 := by
  simp [Lit.wf, IntKind.min, IntKind.max, IntKind.signed, IntKind.bits] at h
  omega
theorem wf_u8 {a : Int} (h : (Lit.int .u8 a).wf = true) : 0 ≤ a ∧ a < 256 := by
  simp [Lit.wf, IntKind.min, IntKind.max, IntKind.signed, IntKind.bits] at h
  omega
theorem trod_msg (h : DataW.trod enc Try.prog w base spare held fuel 36 cs = some x) : ∃ m : Msg, True ∧ cs = m.cells := by
  obtain ⟨xs, n, _, _, hl, hlen, hg⟩ := DataW.trod_struct Try.underlying36 h
  rw [cellsMSG] at hl
  match xs, hlen with
  | [y0, y1, y2, y3, y4], _ =>
    have h0 : DataW.trod enc Try.prog w base spare held n 33 ((cs.drop 0).take (Try.prog.cellsOf 33)) = some y0 := hg 0 _ rfl
    rw [cellsKIND] at h0
    have h1 : DataW.trod enc Try.prog w base spare held n 3 ((cs.drop 1).take (Try.prog.cellsOf 3)) = some y1 := hg 1 _ rfl
    rw [cellsI64] at h1
    have h2 : DataW.trod enc Try.prog w base spare held n 3 ((cs.drop 2).take (Try.prog.cellsOf 3)) = some y2 := hg 2 _ rfl
    rw [cellsI64] at h2
    have h3 : DataW.trod enc Try.prog w base spare held n 24 ((cs.drop 3).take (Try.prog.cellsOf 24)) = some y3 := hg 3 _ rfl
    rw [cellsU32] at h3
    have h4 : DataW.trod enc Try.prog w base spare held n 34 ((cs.drop 4).take (Try.prog.cellsOf 34)) = some y4 := hg 4 _ rfl
    rw [cellsARR] at h4
    obtain ⟨a0, e0, _⟩ := DataW.trod_int Try.underlying33 h0
    obtain ⟨a1, e1, _⟩ := DataW.trod_int Try.underlying3 h1
    obtain ⟨a2, e2, _⟩ := DataW.trod_int Try.underlying3 h2
    obtain ⟨a3, e3, _, w3⟩ := DataW.trod_int Try.underlying24 h3
    obtain ⟨l, hll, e4, hw⟩ := trod_ints Try.underlying34 Try.underlying5 cellsU8 cellsARR h4
    refine ⟨⟨a0, a1, a2, a3, ⟨l, hll, fun a ha => wf_u8 (hw a ha)⟩, wf_u32 w3⟩, trivial, ?_⟩
    have p5 : cs.drop 20 = [] := List.drop_eq_nil_of_le (by omega)
    have p4 := piece e4 p5
    have p3 := piece e3 p4
    have p2 := piece e2 p3
    have p1 := piece e1 p2
    have p0 := piece e0 p1
    rw [List.drop_zero] at p0
    rw [p0]
    simp [Msg.cells]
theorem trod_byte (h : DataW.trod enc Try.prog w base spare held fuel 5 cs = some x) : ∃ m : UInt8, True ∧ cs = byE.cells m := by
  obtain ⟨a, e, _, wa⟩ := DataW.trod_int Try.underlying5 h
  have := wf_u8 wa
  refine ⟨UInt8.ofNat a.toNat, trivial, ?_⟩
  rw [e]
  show _ = [u8v _]
  unfold u8v
  congr 2
  simp
  omega
def MsgsArg (w : World) (v : Value) : Prop := ∃ A cap l, v = .slice A l.length cap ∧ View msgE w A cap l
def BytArg (w : World) (v : Value) : Prop := ∃ A cap l, v = .slice A l.length cap ∧ View byE w A cap l
set_option maxRecDepth 100000 in
theorem open_msgs {r : Reach} {b0 : Nat} {v : Value} {d : DataW H} {p : List MemPlace} (hv : Value.okWide Try.prog w r b0 23 v) (h : DataW.Trod enc Try.prog w base (fun _ => true) held 23 v d p) : MsgsArg w v := by
  obtain ⟨A, cap, l, h1, h2, _⟩ := open_recs (E := msgE) (OK := fun _ => True) Try.underlying23 cellsMSG (fun _ _ _ => trod_msg) hv h
  exact ⟨A, cap, l, h1, h2⟩
set_option maxRecDepth 100000 in
theorem open_byts {r : Reach} {b0 : Nat} {v : Value} {d : DataW H} {p : List MemPlace} (hv : Value.okWide Try.prog w r b0 22 v) (h : DataW.Trod enc Try.prog w base (fun _ => true) held 22 v d p) : BytArg w v := by
  obtain ⟨A, cap, l, h1, h2, _⟩ := open_recs (E := byE) (OK := fun _ => True) Try.underlying22 cellsU8 (fun _ _ _ => trod_byte) hv h
  exact ⟨A, cap, l, h1, h2⟩
end
end Go.Proofs.Ytdiaemlgghfecaa
namespace Go.Proofs.Ytdiaemlgghfecaa
open Go.RowKit
set_option linter.unusedVariables false
theorem walk_HomeApart (w : World) (v0 : Value) (hv0 : BytArg w v0) (v1 : Value) (hv1 : MsgsArg w v1) : Calls Try.prog 5 #[v0, v1] w fun e w' => e = .returned (.bool true) ∧ Below w.heap.size w w' := by
  obtain ⟨A0, c0, l0, rfl, hv0⟩ := hv0
  obtain ⟨A1, c1, l1, rfl, hv1⟩ := hv1
  cases hs : sizeB l0 with
  | false =>
    refine (apart_no hv0 hv1 hs).mono ?_
    rintro e w' ⟨v, rfl, rfl, hn⟩
    exact ⟨rfl, hn.nb⟩
  | true =>
    refine (apart_yes hv0 hv1 hs).mono ?_
    rintro e w' ⟨v, rfl, rfl, hn⟩
    exact ⟨rfl, hn.nb⟩
end Go.Proofs.Ytdiaemlgghfecaa
