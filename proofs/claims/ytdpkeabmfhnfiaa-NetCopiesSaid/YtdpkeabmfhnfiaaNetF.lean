/-
  The walks of Same and counted (the document's), Equal. Printed by gen_f.py.
-/
import Derived.Test.YtdpkeabmfhnfiaaNetP
import Derived.Test.YtdpkeabmfhnfiaaNetE
namespace Go.Proofs.Ytdpkeabmfhnfiaa
open Go.RowKit

set_option maxRecDepth 100000 in
set_option maxHeartbeats 4000000 in
theorem same_c {w : World} {A B : Option Addr} {ca cb : Nat} {la lb : List Msg} (hV : View msgE w A ca la) (hW : View msgE w B cb lb) : Calls Try.prog 18 #[.slice A la.length ca, .slice B lb.length cb] w (Ret fun v w' => v = .bool (decide (la = lb)) ∧ New w w') := by
  have hVl := hV.len
  have hWl := hW.len
  unfold maxLen at hVl hWl
  have hF := Only.refl (fun _ => False) w
  refine fx_enter Try.func18 rfl (N := (26, [])) (T := [(0, .slice A la.length ca), (1, .slice B lb.length cb)]) rfl (show 2 ≤ 26 by decide) ⟨rfl, rfl, trivial⟩ fun a fr => ?_
  refine wp_seq ?_
  refine wp_region_lit ?_  -- region 0
  refine fx_val (v := .bool false) fr rfl rfl (by first | decide | simp) (x_assign rfl rfl) ?_
  clear fr a; intro a fr
  refine wpList_nil ?_
  refine fx_next ?_
  refine wp_seq ?_
  refine wp_seq ?_
  refine wp_region_lit ?_  -- region 1
  refine fx_val (v := .slice A la.length ca) fr rfl rfl (by first | decide | simp) (x_move rfl (fr.ev rfl)) ?_
  clear fr a; intro a fr
  refine fx_val (v := .int .i64 ((la.length : Nat) : Int)) fr rfl rfl (by first | decide | simp) (x_len Try.underlying38 rfl (fr.ev rfl)) ?_
  clear fr a; intro a fr
  refine fx_val (v := .slice B lb.length cb) fr rfl rfl (by first | decide | simp) (x_move rfl (fr.ev rfl)) ?_
  clear fr a; intro a fr
  refine fx_val (v := .int .i64 ((lb.length : Nat) : Int)) fr rfl rfl (by first | decide | simp) (x_len Try.underlying38 rfl (fr.ev rfl)) ?_
  clear fr a; intro a fr
  refine fx_val (v := .bool (decide (((la.length : Nat) : Int) ≠ ((lb.length : Nat) : Int)))) fr rfl rfl (by first | decide | simp) (x_neq rfl (fr.ev rfl) (fr.ev rfl) rfl) ?_
  clear fr a; intro a fr
  refine wpList_nil ?_
  refine fx_next ?_
  refine fx_cond fr rfl (fun hc1 => ?_) (fun hc1 => ?_)
  · skip
    have hc1 := of_decide_eq_true hc1
    refine wp_seq ?_
    refine wp_region_lit ?_  -- region 2
    refine fx_val (v := .bool false) fr rfl rfl (by first | decide | simp) (x_assign rfl rfl) ?_
    clear fr a; intro a fr
    refine wpList_nil ?_
    refine fx_next ?_
    refine wp_ret ?_
    refine fx_rt ?_
    refine fx_ret fr [.tmp 4] [.bool false] rfl ⟨rfl, trivial⟩ rfl ?_
    exact ⟨_, rfl, congrArg Value.bool (decide_eq_false fun he => hc1 (by rw [he])).symm, hF⟩
  · skip
    have hc1 := of_decide_eq_false hc1
    refine wp_skip ?_
    refine fx_next ?_
    refine wp_seq ?_
    refine wp_seq ?_
    refine wp_region_lit ?_  -- region 3
    refine fx_val (v := .int .i64 0) fr rfl rfl (by first | decide | simp) (x_assign rfl rfl) ?_
    clear fr a; intro a fr
    refine wpList_nil ?_
    refine fx_next ?_
    refine wp_block ?_
    refine fx_loop (fun nM a wL => ∃ i : Nat, nM = la.length - i ∧ Fr (26, []) [(0, .slice A la.length ca), (1, .slice B lb.length cb), (5, .int .i64 ((i : Nat) : Int)), (4, .bool false)] a ∧ Only (fun _ => False) w wL ∧ View msgE wL A ca la ∧ View msgE wL B cb lb ∧ i ≤ la.length ∧ ∀ j, j < i → la.getD j msg0 = lb.getD j msg0) (n0 := _) ⟨0, rfl, fr.sub ⟨rfl, rfl, rfl, rfl, trivial⟩, hF, hV, hW, by omega, fun j hj => absurd hj (by omega)⟩ ?_
    rintro n3 a w2 ⟨i, rfl, fr, hF, hV, hW, hi, hall⟩
    refine wp_seq ?_
    refine wp_seq ?_
    refine wp_region_lit ?_  -- region 4
    refine fx_val (v := .int .i64 ((i : Nat) : Int)) fr rfl rfl (by first | decide | simp) (x_move rfl (fr.ev rfl)) ?_
    clear fr a; intro a fr
    refine fx_val (v := .slice A la.length ca) fr rfl rfl (by first | decide | simp) (x_move rfl (fr.ev rfl)) ?_
    clear fr a; intro a fr
    refine fx_val (v := .int .i64 ((la.length : Nat) : Int)) fr rfl rfl (by first | decide | simp) (x_len Try.underlying38 rfl (fr.ev rfl)) ?_
    clear fr a; intro a fr
    refine fx_val (v := .bool (decide (((i : Nat) : Int) < ((la.length : Nat) : Int)))) fr rfl rfl (by first | decide | simp) (x_lss rfl (fr.ev rfl) (fr.ev rfl) rfl) ?_
    clear fr a; intro a fr
    refine wpList_nil ?_
    refine fx_next ?_
    refine fx_cond fr rfl (fun hc4 => ?_) (fun hc4 => ?_)
    · skip
      have hc4 := of_decide_eq_true hc4
      refine wp_skip ?_
      refine fx_next ?_
      refine wp_seq ?_
      refine wp_block ?_
      refine wp_seq ?_
      refine fx_held (n := 9) (fun w => View msgE w A ca la ∧ View msgE w B cb lb ∧ True) (by kernel_rfl) rfl ?_  -- region 6
      intro w5 hN6
      replace hV := hV.new hN6
      replace hW := hW.new hN6
      replace hF := hF.trNew hN6
      refine fx_take (i := 0) (v := .slice A la.length ca) fr rfl (by kernel_rfl) rfl rfl (by first | decide | simp) (fun _ _ _ h => h) (fun _ ⟨hV, hW, _⟩ => x_move rfl (fr.ev rfl)) ⟨hV, hW, trivial⟩ ?_
      clear fr a; intro a fr
      refine fx_take (i := 1) (v := .int .i64 ((i : Nat) : Int)) fr rfl (by kernel_rfl) rfl rfl (by first | decide | simp) (fun _ _ _ h => h) (fun _ ⟨hV, hW, _⟩ => x_move rfl (fr.ev rfl)) ⟨hV, hW, trivial⟩ ?_
      clear fr a; intro a fr
      obtain ⟨g7, o8, hA9⟩ := (hV).some_ (by omega)
      refine fx_take (i := 2) (v := .pointer (some ⟨g7, o8 + i * 20, none⟩)) fr rfl (by kernel_rfl) rfl rfl (by first | decide | simp) (fun _ _ _ h => h) (fun _ ⟨hV, hW, _⟩ => x_indexV Try.underlying38 sz26 rfl (fr.ev rfl) hA9 (fr.ev rfl) (by omega) rfl) ⟨hV, hW, trivial⟩ ?_
      clear fr a; intro a fr
      refine fx_take (i := 3) (v := .agg (msgE.arr (la.getD i msg0))) fr rfl (by kernel_rfl) rfl rfl (by first | decide | simp) (fun _ _ _ h => h) (fun _ ⟨hV, hW, _⟩ => x_loadE (E := msgE) ag26 rfl rfl (fr.ev rfl) ((hV).elem hA9 i msg0 (by omega))) ⟨hV, hW, trivial⟩ ?_
      clear fr a; intro a fr
      refine fx_take (i := 4) (v := .slice B lb.length cb) fr rfl (by kernel_rfl) rfl rfl (by first | decide | simp) (fun _ _ _ h => h) (fun _ ⟨hV, hW, _⟩ => x_move rfl (fr.ev rfl)) ⟨hV, hW, trivial⟩ ?_
      clear fr a; intro a fr
      refine fx_take (i := 5) (v := .int .i64 ((i : Nat) : Int)) fr rfl (by kernel_rfl) rfl rfl (by first | decide | simp) (fun _ _ _ h => h) (fun _ ⟨hV, hW, _⟩ => x_move rfl (fr.ev rfl)) ⟨hV, hW, trivial⟩ ?_
      clear fr a; intro a fr
      obtain ⟨g10, o11, hA12⟩ := (hW).some_ (by omega)
      refine fx_take (i := 6) (v := .pointer (some ⟨g10, o11 + i * 20, none⟩)) fr rfl (by kernel_rfl) rfl rfl (by first | decide | simp) (fun _ _ _ h => h) (fun _ ⟨hV, hW, _⟩ => x_indexV Try.underlying38 sz26 rfl (fr.ev rfl) hA12 (fr.ev rfl) (by omega) rfl) ⟨hV, hW, trivial⟩ ?_
      clear fr a; intro a fr
      refine fx_take (i := 7) (v := .agg (msgE.arr (lb.getD i msg0))) fr rfl (by kernel_rfl) rfl rfl (by first | decide | simp) (fun _ _ _ h => h) (fun _ ⟨hV, hW, _⟩ => x_loadE (E := msgE) ag26 rfl rfl (fr.ev rfl) ((hW).elem hA12 i msg0 (by omega))) ⟨hV, hW, trivial⟩ ?_
      clear fr a; intro a fr
      refine fx_take (i := 8) (v := .bool (!decide ((la.getD i msg0) = (lb.getD i msg0)))) fr rfl (by kernel_rfl) rfl rfl (by first | decide | simp) (fun _ _ _ h => h) (fun _ ⟨hV, hW, _⟩ => x_neE msgER rfl rfl (fr.ev rfl) (fr.ev rfl) rfl) ⟨hV, hW, trivial⟩ ?_
      clear fr a; intro a fr
      refine fx_hdone (by kernel_rfl) ?_
      refine fx_next ?_
      refine fx_cond fr rfl (fun hc13 => ?_) (fun hc13 => ?_)
      · skip
        refine wp_seq ?_
        refine wp_region_lit ?_  -- region 7
        refine fx_val (v := .bool false) fr rfl rfl (by first | decide | simp) (x_assign rfl rfl) ?_
        clear fr a; intro a fr
        refine wpList_nil ?_
        refine fx_next ?_
        refine wp_ret ?_
        refine fx_rb ?_
        refine fx_rt ?_
        refine fx_rt ?_
        refine fx_rb ?_
        refine fx_rt ?_
        refine fx_ret fr [.tmp 4] [.bool false] rfl ⟨rfl, trivial⟩ rfl ?_
        exact ⟨_, rfl, congrArg Value.bool (decide_eq_false fun he => by rw [he] at hc13; simp at hc13).symm, hF⟩
      · skip
        refine wp_skip ?_
        refine fx_blk ?_
        refine fx_next ?_
        refine wp_region_lit ?_  -- region 5
        refine fx_val (v := .int .i64 ((i : Nat) : Int)) fr rfl rfl (by first | decide | simp) (x_move rfl (fr.ev rfl)) ?_
        clear fr a; intro a fr
        refine fx_val (v := .int .i64 ((i + 1 : Nat) : Int)) fr rfl rfl (by first | decide | simp) (x_add rfl (fr.ev rfl) rfl (i64w (r := ((i + 1 : Nat) : Int)) (by omega) (by omega))) ?_
        clear fr a; intro a fr
        refine fx_val (v := .int .i64 ((i + 1 : Nat) : Int)) fr rfl rfl (by first | decide | simp) (x_assign rfl (fr.ev rfl)) ?_
        clear fr a; intro a fr
        refine wpList_nil ?_
        refine fx_next ?_
        exact ⟨_, by omega, (i + 1), rfl, fr.sub ⟨rfl, rfl, rfl, rfl, trivial⟩, hF, hV, hW, by omega, fun j hj => by rcases Nat.lt_succ_iff_lt_or_eq.1 hj with h | rfl; exact hall j h; simpa using hc13⟩
    · skip
      have hc4 := of_decide_eq_false hc4
      refine wp_exit ?_
      refine fx_xt ?_
      refine fx_xt ?_
      refine fx_xx ?_
      refine fx_next ?_
      refine wp_seq ?_
      refine wp_region_lit ?_  -- region 8
      refine fx_val (v := .bool true) fr rfl rfl (by first | decide | simp) (x_assign rfl rfl) ?_
      clear fr a; intro a fr
      refine wpList_nil ?_
      refine fx_next ?_
      refine wp_ret ?_
      refine fx_ret fr [.tmp 4] [.bool true] rfl ⟨rfl, trivial⟩ rfl ?_
      exact ⟨_, rfl, congrArg Value.bool (decide_eq_true (ext_getD msg0 (by omega) fun j hj => hall j (by omega))).symm, hF⟩
set_option maxRecDepth 100000 in
set_option maxHeartbeats 4000000 in
theorem equal_c {w : World} {A B : Option Addr} {ca cb : Nat} {la lb : List Msg} (hV : View msgE w A ca la) (hW : View msgE w B cb lb) : Calls Try.prog 34 #[.slice A la.length ca, .slice B lb.length cb] w (Ret fun v w' => v = .bool (decide (la = lb)) ∧ New w w') := by
  have hVl := hV.len
  have hWl := hW.len
  unfold maxLen at hVl hWl
  have hF := Only.refl (fun _ => False) w
  refine fx_enter Try.func34 rfl (N := (26, [])) (T := [(0, .slice A la.length ca), (1, .slice B lb.length cb)]) rfl (show 2 ≤ 26 by decide) ⟨rfl, rfl, trivial⟩ fun a fr => ?_
  refine wp_seq ?_
  refine wp_region_lit ?_  -- region 0
  refine fx_val (v := .bool false) fr rfl rfl (by first | decide | simp) (x_assign rfl rfl) ?_
  clear fr a; intro a fr
  refine wpList_nil ?_
  refine fx_next ?_
  refine wp_seq ?_
  refine wp_seq ?_
  refine wp_region_lit ?_  -- region 1
  refine fx_val (v := .slice A la.length ca) fr rfl rfl (by first | decide | simp) (x_move rfl (fr.ev rfl)) ?_
  clear fr a; intro a fr
  refine fx_val (v := .int .i64 ((la.length : Nat) : Int)) fr rfl rfl (by first | decide | simp) (x_len Try.underlying38 rfl (fr.ev rfl)) ?_
  clear fr a; intro a fr
  refine fx_val (v := .slice B lb.length cb) fr rfl rfl (by first | decide | simp) (x_move rfl (fr.ev rfl)) ?_
  clear fr a; intro a fr
  refine fx_val (v := .int .i64 ((lb.length : Nat) : Int)) fr rfl rfl (by first | decide | simp) (x_len Try.underlying38 rfl (fr.ev rfl)) ?_
  clear fr a; intro a fr
  refine fx_val (v := .bool (decide (((la.length : Nat) : Int) ≠ ((lb.length : Nat) : Int)))) fr rfl rfl (by first | decide | simp) (x_neq rfl (fr.ev rfl) (fr.ev rfl) rfl) ?_
  clear fr a; intro a fr
  refine wpList_nil ?_
  refine fx_next ?_
  refine fx_cond fr rfl (fun hc1 => ?_) (fun hc1 => ?_)
  · skip
    have hc1 := of_decide_eq_true hc1
    refine wp_seq ?_
    refine wp_region_lit ?_  -- region 2
    refine fx_val (v := .bool false) fr rfl rfl (by first | decide | simp) (x_assign rfl rfl) ?_
    clear fr a; intro a fr
    refine wpList_nil ?_
    refine fx_next ?_
    refine wp_ret ?_
    refine fx_rt ?_
    refine fx_ret fr [.tmp 4] [.bool false] rfl ⟨rfl, trivial⟩ rfl ?_
    exact ⟨_, rfl, congrArg Value.bool (decide_eq_false fun he => hc1 (by rw [he])).symm, hF⟩
  · skip
    have hc1 := of_decide_eq_false hc1
    refine wp_skip ?_
    refine fx_next ?_
    refine wp_seq ?_
    refine wp_seq ?_
    refine wp_region_lit ?_  -- region 3
    refine fx_val (v := .slice A la.length ca) fr rfl rfl (by first | decide | simp) (x_move rfl (fr.ev rfl)) ?_
    clear fr a; intro a fr
    refine fx_val (v := .int .i64 ((la.length : Nat) : Int)) fr rfl rfl (by first | decide | simp) (x_len Try.underlying38 rfl (fr.ev rfl)) ?_
    clear fr a; intro a fr
    refine fx_val (v := .int .i64 0) fr rfl rfl (by first | decide | simp) (x_move rfl rfl) ?_
    clear fr a; intro a fr
    refine wpList_nil ?_
    refine fx_next ?_
    refine wp_block ?_
    refine fx_loop (fun nM a wL => ∃ i : Nat, nM = la.length - i ∧ Fr (26, []) [(0, .slice A la.length ca), (1, .slice B lb.length cb), (13, .int .i64 ((i : Nat) : Int)), (4, .bool false), (12, .int .i64 ((la.length : Nat) : Int))] a ∧ Only (fun _ => False) w wL ∧ View msgE wL A ca la ∧ View msgE wL B cb lb ∧ i ≤ la.length ∧ ∀ j, j < i → la.getD j msg0 = lb.getD j msg0) (n0 := _) ⟨0, rfl, fr.sub ⟨rfl, rfl, rfl, rfl, rfl, trivial⟩, hF, hV, hW, by omega, fun j hj => absurd hj (by omega)⟩ ?_
    rintro n3 a w2 ⟨i, rfl, fr, hF, hV, hW, hi, hall⟩
    refine wp_seq ?_
    refine wp_region_lit ?_  -- region 4
    refine fx_val (v := .bool (decide (((i : Nat) : Int) < ((la.length : Nat) : Int)))) fr rfl rfl (by first | decide | simp) (x_lss rfl (fr.ev rfl) (fr.ev rfl) rfl) ?_
    clear fr a; intro a fr
    refine wpList_nil ?_
    refine fx_next ?_
    refine wp_seq ?_
    refine fx_cond fr rfl (fun hc4 => ?_) (fun hc4 => ?_)
    · skip
      have hc4 := of_decide_eq_true hc4
      refine wp_skip ?_
      refine fx_next ?_
      refine wp_seq ?_
      refine wp_block ?_
      refine wp_seq ?_
      refine wp_region_lit ?_  -- region 5
      refine fx_val (v := .int .i64 ((i : Nat) : Int)) fr rfl rfl (by first | decide | simp) (x_move rfl (fr.ev rfl)) ?_
      clear fr a; intro a fr
      refine fx_val (v := .int .i64 ((i : Nat) : Int)) fr rfl rfl (by first | decide | simp) (x_assign rfl (fr.ev rfl)) ?_
      clear fr a; intro a fr
      refine wpList_nil ?_
      refine fx_next ?_
      refine wp_seq ?_
      refine fx_held (n := 9) (fun w => View msgE w A ca la ∧ View msgE w B cb lb ∧ True) (by kernel_rfl) rfl ?_  -- region 6
      intro w5 hN6
      replace hV := hV.new hN6
      replace hW := hW.new hN6
      replace hF := hF.trNew hN6
      refine fx_take (i := 0) (v := .slice A la.length ca) fr rfl (by kernel_rfl) rfl rfl (by first | decide | simp) (fun _ _ _ h => h) (fun _ ⟨hV, hW, _⟩ => x_move rfl (fr.ev rfl)) ⟨hV, hW, trivial⟩ ?_
      clear fr a; intro a fr
      refine fx_take (i := 1) (v := .int .i64 ((i : Nat) : Int)) fr rfl (by kernel_rfl) rfl rfl (by first | decide | simp) (fun _ _ _ h => h) (fun _ ⟨hV, hW, _⟩ => x_move rfl (fr.ev rfl)) ⟨hV, hW, trivial⟩ ?_
      clear fr a; intro a fr
      obtain ⟨g7, o8, hA9⟩ := (hV).some_ (by omega)
      refine fx_take (i := 2) (v := .pointer (some ⟨g7, o8 + i * 20, none⟩)) fr rfl (by kernel_rfl) rfl rfl (by first | decide | simp) (fun _ _ _ h => h) (fun _ ⟨hV, hW, _⟩ => x_indexV Try.underlying38 sz26 rfl (fr.ev rfl) hA9 (fr.ev rfl) (by omega) rfl) ⟨hV, hW, trivial⟩ ?_
      clear fr a; intro a fr
      refine fx_take (i := 3) (v := .agg (msgE.arr (la.getD i msg0))) fr rfl (by kernel_rfl) rfl rfl (by first | decide | simp) (fun _ _ _ h => h) (fun _ ⟨hV, hW, _⟩ => x_loadE (E := msgE) ag26 rfl rfl (fr.ev rfl) ((hV).elem hA9 i msg0 (by omega))) ⟨hV, hW, trivial⟩ ?_
      clear fr a; intro a fr
      refine fx_take (i := 4) (v := .slice B lb.length cb) fr rfl (by kernel_rfl) rfl rfl (by first | decide | simp) (fun _ _ _ h => h) (fun _ ⟨hV, hW, _⟩ => x_move rfl (fr.ev rfl)) ⟨hV, hW, trivial⟩ ?_
      clear fr a; intro a fr
      refine fx_take (i := 5) (v := .int .i64 ((i : Nat) : Int)) fr rfl (by kernel_rfl) rfl rfl (by first | decide | simp) (fun _ _ _ h => h) (fun _ ⟨hV, hW, _⟩ => x_move rfl (fr.ev rfl)) ⟨hV, hW, trivial⟩ ?_
      clear fr a; intro a fr
      obtain ⟨g10, o11, hA12⟩ := (hW).some_ (by omega)
      refine fx_take (i := 6) (v := .pointer (some ⟨g10, o11 + i * 20, none⟩)) fr rfl (by kernel_rfl) rfl rfl (by first | decide | simp) (fun _ _ _ h => h) (fun _ ⟨hV, hW, _⟩ => x_indexV Try.underlying38 sz26 rfl (fr.ev rfl) hA12 (fr.ev rfl) (by omega) rfl) ⟨hV, hW, trivial⟩ ?_
      clear fr a; intro a fr
      refine fx_take (i := 7) (v := .agg (msgE.arr (lb.getD i msg0))) fr rfl (by kernel_rfl) rfl rfl (by first | decide | simp) (fun _ _ _ h => h) (fun _ ⟨hV, hW, _⟩ => x_loadE (E := msgE) ag26 rfl rfl (fr.ev rfl) ((hW).elem hA12 i msg0 (by omega))) ⟨hV, hW, trivial⟩ ?_
      clear fr a; intro a fr
      refine fx_take (i := 8) (v := .bool (!decide ((la.getD i msg0) = (lb.getD i msg0)))) fr rfl (by kernel_rfl) rfl rfl (by first | decide | simp) (fun _ _ _ h => h) (fun _ ⟨hV, hW, _⟩ => x_neE msgER rfl rfl (fr.ev rfl) (fr.ev rfl) rfl) ⟨hV, hW, trivial⟩ ?_
      clear fr a; intro a fr
      refine fx_hdone (by kernel_rfl) ?_
      refine fx_next ?_
      refine fx_cond fr rfl (fun hc13 => ?_) (fun hc13 => ?_)
      · skip
        refine wp_seq ?_
        refine wp_region_lit ?_  -- region 7
        refine fx_val (v := .bool false) fr rfl rfl (by first | decide | simp) (x_assign rfl rfl) ?_
        clear fr a; intro a fr
        refine wpList_nil ?_
        refine fx_next ?_
        refine wp_ret ?_
        refine fx_rb ?_
        refine fx_rt ?_
        refine fx_rt ?_
        refine fx_rb ?_
        refine fx_rt ?_
        refine fx_ret fr [.tmp 4] [.bool false] rfl ⟨rfl, trivial⟩ rfl ?_
        exact ⟨_, rfl, congrArg Value.bool (decide_eq_false fun he => by rw [he] at hc13; simp at hc13).symm, hF⟩
      · skip
        refine wp_skip ?_
        refine fx_blk ?_
        refine fx_next ?_
        refine wp_region_lit ?_  -- region 8
        refine fx_val (v := .int .i64 ((i + 1 : Nat) : Int)) fr rfl rfl (by first | decide | simp) (x_add rfl (fr.ev rfl) rfl (i64w (r := ((i + 1 : Nat) : Int)) (by omega) (by omega))) ?_
        clear fr a; intro a fr
        refine fx_val (v := .int .i64 ((i + 1 : Nat) : Int)) fr rfl rfl (by first | decide | simp) (x_move rfl (fr.ev rfl)) ?_
        clear fr a; intro a fr
        refine wpList_nil ?_
        refine fx_next ?_
        exact ⟨_, by omega, (i + 1), rfl, fr.sub ⟨rfl, rfl, rfl, rfl, rfl, trivial⟩, hF, hV, hW, by omega, fun j hj => by rcases Nat.lt_succ_iff_lt_or_eq.1 hj with h | rfl; exact hall j h; simpa using hc13⟩
    · skip
      have hc4 := of_decide_eq_false hc4
      refine wp_exit ?_
      refine fx_xt ?_
      refine fx_xt ?_
      refine fx_xx ?_
      refine fx_next ?_
      refine wp_seq ?_
      refine wp_region_lit ?_  -- region 9
      refine fx_val (v := .bool true) fr rfl rfl (by first | decide | simp) (x_assign rfl rfl) ?_
      clear fr a; intro a fr
      refine wpList_nil ?_
      refine fx_next ?_
      refine wp_ret ?_
      refine fx_ret fr [.tmp 4] [.bool true] rfl ⟨rfl, trivial⟩ rfl ?_
      exact ⟨_, rfl, congrArg Value.bool (decide_eq_true (ext_getD msg0 (by omega) fun j hj => hall j (by omega))).symm, hF⟩
set_option maxRecDepth 100000 in
set_option maxHeartbeats 4000000 in
theorem counted_c (m : Msg) {w : World} {A : Option Addr} {ca : Nat} {la : List Msg} (hV : View msgE w A ca la) : Calls Try.prog 20 #[.slice A la.length ca, .agg (msgE.arr m)] w (Ret fun v w' => v = .int .i64 ((la.count m : Nat) : Int) ∧ New w w') := by
  have hVl := hV.len
  unfold maxLen at hVl
  have hF := Only.refl (fun _ => False) w
  refine fx_enter Try.func20 rfl (N := (22, [])) (T := [(0, .slice A la.length ca), (1, .agg (msgE.arr m))]) rfl (show 2 ≤ 22 by decide) ⟨rfl, rfl, trivial⟩ fun a fr => ?_
  refine wp_seq ?_
  refine wp_region_lit ?_  -- region 0
  refine fx_new fr rfl rfl (by first | decide | simp) (x_box (cs := msgE.arr m) rfl (fr.ev rfl) rfl) ?_
  clear fr a
  intro b1 w2 hN3 B4 hb5 a fr
  have ap_A_b1 : Apart A b1 := hV.apart hb5
  have g_b1 := Nat.le_trans hF.size hb5
  replace hV := hV.new hN3
  replace hF := hF.trNew hN3
  refine fx_val (v := .int .i64 0) fr rfl rfl (by first | decide | simp) (x_assign rfl rfl) ?_
  clear fr a; intro a fr
  refine wpList_nil ?_
  refine fx_next ?_
  refine wp_seq ?_
  refine wp_region_lit ?_  -- region 1
  refine fx_val (v := .int .i64 0) fr rfl rfl (by first | decide | simp) (x_assign rfl rfl) ?_
  clear fr a; intro a fr
  refine wpList_nil ?_
  refine fx_next ?_
  refine wp_seq ?_
  refine wp_seq ?_
  refine wp_region_lit ?_  -- region 2
  refine fx_val (v := .int .i64 0) fr rfl rfl (by first | decide | simp) (x_assign rfl rfl) ?_
  clear fr a; intro a fr
  refine wpList_nil ?_
  refine fx_next ?_
  refine wp_block ?_
  refine fx_loop (fun nM a wL => ∃ i : Nat, ∃ n : Nat, nM = la.length - i ∧ Fr (22, []) [(0, .slice A la.length ca), (3, .pointer (some ⟨b1, 0, none⟩)), (5, .int .i64 ((n : Nat) : Int)), (6, .int .i64 ((i : Nat) : Int))] a ∧ Only (fun _ => False) w wL ∧ View msgE wL A ca la ∧ Blk wL b1 26 (msgE.arr m) ∧ i ≤ la.length ∧ n = (la.take i).count m ∧ n ≤ i) (n0 := _) ⟨0, 0, rfl, fr.sub ⟨rfl, rfl, rfl, rfl, trivial⟩, hF, hV, B4, by omega, rfl, by omega⟩ ?_
  rintro n7 a w6 ⟨i, n, rfl, fr, hF, hV, B4, hi, hn, hni⟩
  refine wp_seq ?_
  refine wp_seq ?_
  refine wp_region_lit ?_  -- region 3
  refine fx_val (v := .int .i64 ((i : Nat) : Int)) fr rfl rfl (by first | decide | simp) (x_move rfl (fr.ev rfl)) ?_
  clear fr a; intro a fr
  refine fx_val (v := .slice A la.length ca) fr rfl rfl (by first | decide | simp) (x_move rfl (fr.ev rfl)) ?_
  clear fr a; intro a fr
  refine fx_val (v := .int .i64 ((la.length : Nat) : Int)) fr rfl rfl (by first | decide | simp) (x_len Try.underlying38 rfl (fr.ev rfl)) ?_
  clear fr a; intro a fr
  refine fx_val (v := .bool (decide (((i : Nat) : Int) < ((la.length : Nat) : Int)))) fr rfl rfl (by first | decide | simp) (x_lss rfl (fr.ev rfl) (fr.ev rfl) rfl) ?_
  clear fr a; intro a fr
  refine wpList_nil ?_
  refine fx_next ?_
  refine fx_cond fr rfl (fun hc8 => ?_) (fun hc8 => ?_)
  · skip
    have hc8 := of_decide_eq_true hc8
    refine wp_skip ?_
    refine fx_next ?_
    refine wp_seq ?_
    refine wp_block ?_
    refine wp_seq ?_
    refine fx_held (n := 6) (fun w => View msgE w A ca la ∧ Blk w b1 26 (msgE.arr m) ∧ True) (by kernel_rfl) rfl ?_  -- region 5
    intro w9 hN10
    replace hV := hV.new hN10
    replace B4 := B4.new hN10
    replace hF := hF.trNew hN10
    refine fx_take (i := 0) (v := .slice A la.length ca) fr rfl (by kernel_rfl) rfl rfl (by first | decide | simp) (fun _ _ _ h => h) (fun _ ⟨hV, B4, _⟩ => x_move rfl (fr.ev rfl)) ⟨hV, B4, trivial⟩ ?_
    clear fr a; intro a fr
    refine fx_take (i := 1) (v := .int .i64 ((i : Nat) : Int)) fr rfl (by kernel_rfl) rfl rfl (by first | decide | simp) (fun _ _ _ h => h) (fun _ ⟨hV, B4, _⟩ => x_move rfl (fr.ev rfl)) ⟨hV, B4, trivial⟩ ?_
    clear fr a; intro a fr
    obtain ⟨g11, o12, hA13⟩ := (hV).some_ (by omega)
    refine fx_take (i := 2) (v := .pointer (some ⟨g11, o12 + i * 20, none⟩)) fr rfl (by kernel_rfl) rfl rfl (by first | decide | simp) (fun _ _ _ h => h) (fun _ ⟨hV, B4, _⟩ => x_indexV Try.underlying38 sz26 rfl (fr.ev rfl) hA13 (fr.ev rfl) (by omega) rfl) ⟨hV, B4, trivial⟩ ?_
    clear fr a; intro a fr
    refine fx_take (i := 3) (v := .agg (msgE.arr (la.getD i msg0))) fr rfl (by kernel_rfl) rfl rfl (by first | decide | simp) (fun _ _ _ h => h) (fun _ ⟨hV, B4, _⟩ => x_loadE (E := msgE) ag26 rfl rfl (fr.ev rfl) ((hV).elem hA13 i msg0 (by omega))) ⟨hV, B4, trivial⟩ ?_
    clear fr a; intro a fr
    refine fx_take (i := 4) (v := .agg (msgE.arr m)) fr rfl (by kernel_rfl) rfl rfl (by first | decide | simp) (fun _ _ _ h => h) (fun _ ⟨hV, B4, _⟩ => x_loadE (E := msgE) ag26 rfl rfl (fr.ev rfl) (B4.rangeE msgE)) ⟨hV, B4, trivial⟩ ?_
    clear fr a; intro a fr
    refine fx_take (i := 5) (v := .bool (decide ((la.getD i msg0) = m))) fr rfl (by kernel_rfl) rfl rfl (by first | decide | simp) (fun _ _ _ h => h) (fun _ ⟨hV, B4, _⟩ => x_eqE msgER rfl rfl (fr.ev rfl) (fr.ev rfl) rfl) ⟨hV, B4, trivial⟩ ?_
    clear fr a; intro a fr
    refine fx_hdone (by kernel_rfl) ?_
    refine fx_next ?_
    refine fx_cond fr rfl (fun hc14 => ?_) (fun hc14 => ?_)
    · skip
      have hc14 := of_decide_eq_true hc14
      refine wp_region_lit ?_  -- region 6
      refine fx_val (v := .int .i64 ((n : Nat) : Int)) fr rfl rfl (by first | decide | simp) (x_move rfl (fr.ev rfl)) ?_
      clear fr a; intro a fr
      refine fx_val (v := .int .i64 ((n + 1 : Nat) : Int)) fr rfl rfl (by first | decide | simp) (x_add rfl (fr.ev rfl) rfl (i64w (r := ((n + 1 : Nat) : Int)) (by omega) (by omega))) ?_
      clear fr a; intro a fr
      refine fx_val (v := .int .i64 ((n + 1 : Nat) : Int)) fr rfl rfl (by first | decide | simp) (x_assign rfl (fr.ev rfl)) ?_
      clear fr a; intro a fr
      refine wpList_nil ?_
      refine fx_blk ?_
      refine fx_next ?_
      refine wp_region_lit ?_  -- region 4
      refine fx_val (v := .int .i64 ((i : Nat) : Int)) fr rfl rfl (by first | decide | simp) (x_move rfl (fr.ev rfl)) ?_
      clear fr a; intro a fr
      refine fx_val (v := .int .i64 ((i + 1 : Nat) : Int)) fr rfl rfl (by first | decide | simp) (x_add rfl (fr.ev rfl) rfl (i64w (r := ((i + 1 : Nat) : Int)) (by omega) (by omega))) ?_
      clear fr a; intro a fr
      refine fx_val (v := .int .i64 ((i + 1 : Nat) : Int)) fr rfl rfl (by first | decide | simp) (x_assign rfl (fr.ev rfl)) ?_
      clear fr a; intro a fr
      refine wpList_nil ?_
      refine fx_next ?_
      exact ⟨_, by omega, (i + 1), (n + 1), rfl, fr.sub ⟨rfl, rfl, rfl, rfl, trivial⟩, hF, hV, B4, by omega, by have h9 := count_step msg0 m (l := la) (i := i) (by omega); rw [if_pos hc14] at h9; omega, by omega⟩
    · skip
      have hc14 := of_decide_eq_false hc14
      refine wp_skip ?_
      refine fx_blk ?_
      refine fx_next ?_
      refine wp_region_lit ?_  -- region 4
      refine fx_val (v := .int .i64 ((i : Nat) : Int)) fr rfl rfl (by first | decide | simp) (x_move rfl (fr.ev rfl)) ?_
      clear fr a; intro a fr
      refine fx_val (v := .int .i64 ((i + 1 : Nat) : Int)) fr rfl rfl (by first | decide | simp) (x_add rfl (fr.ev rfl) rfl (i64w (r := ((i + 1 : Nat) : Int)) (by omega) (by omega))) ?_
      clear fr a; intro a fr
      refine fx_val (v := .int .i64 ((i + 1 : Nat) : Int)) fr rfl rfl (by first | decide | simp) (x_assign rfl (fr.ev rfl)) ?_
      clear fr a; intro a fr
      refine wpList_nil ?_
      refine fx_next ?_
      exact ⟨_, by omega, (i + 1), n, rfl, fr.sub ⟨rfl, rfl, rfl, rfl, trivial⟩, hF, hV, B4, by omega, by have h9 := count_step msg0 m (l := la) (i := i) (by omega); rw [if_neg hc14] at h9; omega, by omega⟩
  · skip
    have hc8 := of_decide_eq_false hc8
    refine wp_exit ?_
    refine fx_xt ?_
    refine fx_xt ?_
    refine fx_xx ?_
    refine fx_next ?_
    refine wp_seq ?_
    refine wp_region_lit ?_  -- region 7
    refine fx_val (v := .int .i64 ((n : Nat) : Int)) fr rfl rfl (by first | decide | simp) (x_move rfl (fr.ev rfl)) ?_
    clear fr a; intro a fr
    refine fx_val (v := .int .i64 ((n : Nat) : Int)) fr rfl rfl (by first | decide | simp) (x_assign rfl (fr.ev rfl)) ?_
    clear fr a; intro a fr
    refine wpList_nil ?_
    refine fx_next ?_
    refine wp_ret ?_
    refine fx_ret fr [.tmp 4] [.int .i64 ((n : Nat) : Int)] rfl ⟨rfl, trivial⟩ rfl ?_
    rw [List.take_of_length_le (by omega)] at hn
    exact ⟨_, rfl, by subst hn; rfl, hF⟩
end Go.Proofs.Ytdpkeabmfhnfiaa
