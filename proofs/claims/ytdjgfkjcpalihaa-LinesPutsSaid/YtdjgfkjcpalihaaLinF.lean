/-
  Which lists, which caches are the same. Printed by gen_f.py.
-/
import Derived.Test.YtdjgfkjcpalihaaLinE
namespace Go.Proofs.Ytdjgfkjcpalihaa
open Go.RowKit

set_option maxRecDepth 100000 in
set_option maxHeartbeats 4000000 in
theorem rsame_c {w : World} {A B : Option Addr} {ca cb : Nat} {la lb : List Ln} (hV : View lnE w A ca la) (hW : View lnE w B cb lb) : Calls Try.prog 29 #[.slice A la.length ca, .slice B lb.length cb] w (Ret fun v w' => v = .bool (decide (la = lb)) ∧ New w w') := by
  have hVl := hV.len
  have hWl := hW.len
  unfold maxLen at hVl hWl
  have hF := Only.refl (fun _ => False) w
  refine fx_enter Try.func29 rfl (N := (26, [])) (T := [(0, .slice A la.length ca), (1, .slice B lb.length cb)]) rfl (show 2 ≤ 26 by decide) ⟨rfl, rfl, trivial⟩ fun a fr => ?_
  refine wp_seq ?_
  refine wp_region_lit ?_  -- region 0
  refine fx_val (v := .bool false) fr rfl rfl (by first | decide | simp) (x_assign rfl rfl) ?_
  clear fr a; intro a fr
  refine wpList_nil ?_
  refine fx_next ?_
  refine wp_seq ?_
  refine wp_seq ?_
  refine wp_region_lit ?_  -- region 1
  refine fx_val (v := .slice A la.length ca) fr rfl rfl (by first | decide | simp) (x_move rfl (fr.ev rfl)) ?_
  clear fr a; intro a fr
  refine fx_val (v := .int .i64 ((la.length : Nat) : Int)) fr rfl rfl (by first | decide | simp) (x_len Try.underlying26 rfl (fr.ev rfl)) ?_
  clear fr a; intro a fr
  refine fx_val (v := .slice B lb.length cb) fr rfl rfl (by first | decide | simp) (x_move rfl (fr.ev rfl)) ?_
  clear fr a; intro a fr
  refine fx_val (v := .int .i64 ((lb.length : Nat) : Int)) fr rfl rfl (by first | decide | simp) (x_len Try.underlying26 rfl (fr.ev rfl)) ?_
  clear fr a; intro a fr
  refine fx_val (v := .bool (decide (((la.length : Nat) : Int) ≠ ((lb.length : Nat) : Int)))) fr rfl rfl (by first | decide | simp) (x_neq rfl (fr.ev rfl) (fr.ev rfl) rfl) ?_
  clear fr a; intro a fr
  refine wpList_nil ?_
  refine fx_next ?_
  refine fx_cond fr rfl (fun hc1 => ?_) (fun hc1 => ?_)
  · skip
    have hc1 := of_decide_eq_true hc1
    refine wp_seq ?_
    refine wp_region_lit ?_  -- region 2
    refine fx_val (v := .bool false) fr rfl rfl (by first | decide | simp) (x_assign rfl rfl) ?_
    clear fr a; intro a fr
    refine wpList_nil ?_
    refine fx_next ?_
    refine wp_ret ?_
    refine fx_rt ?_
    refine fx_ret fr [.tmp 4] [.bool false] rfl ⟨rfl, trivial⟩ rfl ?_
    exact ⟨_, rfl, congrArg Value.bool (decide_eq_false fun he => hc1 (by rw [he])).symm, hF⟩
  · skip
    have hc1 := of_decide_eq_false hc1
    refine wp_skip ?_
    refine fx_next ?_
    refine wp_seq ?_
    refine wp_seq ?_
    refine wp_region_lit ?_  -- region 3
    refine fx_val (v := .int .i64 0) fr rfl rfl (by first | decide | simp) (x_assign rfl rfl) ?_
    clear fr a; intro a fr
    refine wpList_nil ?_
    refine fx_next ?_
    refine wp_block ?_
    refine fx_loop (fun nM a wL => ∃ i : Nat, nM = la.length - i ∧ Fr (26, []) [(0, .slice A la.length ca), (1, .slice B lb.length cb), (5, .int .i64 ((i : Nat) : Int)), (4, .bool false)] a ∧ Only (fun _ => False) w wL ∧ View lnE wL A ca la ∧ View lnE wL B cb lb ∧ i ≤ la.length ∧ (∀ j, j < i → la.getD j ln0 = lb.getD j ln0)) (n0 := _) ⟨0, rfl, fr.sub ⟨rfl, rfl, rfl, rfl, trivial⟩, hF, hV, hW, by omega, (fun j hj => absurd hj (by omega))⟩ ?_
    rintro n3 a w2 ⟨i, rfl, fr, hF, hV, hW, hi, hall⟩
    refine wp_seq ?_
    refine wp_seq ?_
    refine wp_region_lit ?_  -- region 4
    refine fx_val (v := .int .i64 ((i : Nat) : Int)) fr rfl rfl (by first | decide | simp) (x_move rfl (fr.ev rfl)) ?_
    clear fr a; intro a fr
    refine fx_val (v := .slice A la.length ca) fr rfl rfl (by first | decide | simp) (x_move rfl (fr.ev rfl)) ?_
    clear fr a; intro a fr
    refine fx_val (v := .int .i64 ((la.length : Nat) : Int)) fr rfl rfl (by first | decide | simp) (x_len Try.underlying26 rfl (fr.ev rfl)) ?_
    clear fr a; intro a fr
    refine fx_val (v := .bool (decide (((i : Nat) : Int) < ((la.length : Nat) : Int)))) fr rfl rfl (by first | decide | simp) (x_lss rfl (fr.ev rfl) (fr.ev rfl) rfl) ?_
    clear fr a; intro a fr
    refine wpList_nil ?_
    refine fx_next ?_
    refine fx_cond fr rfl (fun hc4 => ?_) (fun hc4 => ?_)
    · skip
      have hc4 := of_decide_eq_true hc4
      refine wp_skip ?_
      refine fx_next ?_
      refine wp_seq ?_
      refine wp_block ?_
      refine wp_seq ?_
      refine fx_held (n := 9) (fun w => View lnE w A ca la ∧ View lnE w B cb lb ∧ True) (by kernel_rfl) rfl ?_  -- region 6
      intro w5 hN6
      replace hV := hV.new hN6
      replace hW := hW.new hN6
      replace hF := hF.trNew hN6
      refine fx_take (i := 0) (v := .slice A la.length ca) fr rfl (by kernel_rfl) rfl rfl (by first | decide | simp) (fun _ _ _ h => h) (fun _ ⟨hV, hW, _⟩ => x_move rfl (fr.ev rfl)) ⟨hV, hW, trivial⟩ ?_
      clear fr a; intro a fr
      refine fx_take (i := 1) (v := .int .i64 ((i : Nat) : Int)) fr rfl (by kernel_rfl) rfl rfl (by first | decide | simp) (fun _ _ _ h => h) (fun _ ⟨hV, hW, _⟩ => x_move rfl (fr.ev rfl)) ⟨hV, hW, trivial⟩ ?_
      clear fr a; intro a fr
      obtain ⟨g7, o8, hA9⟩ := (hV).some_ (by omega)
      refine fx_take (i := 2) (v := .pointer (some ⟨g7, o8 + i * 18, none⟩)) fr rfl (by kernel_rfl) rfl rfl (by first | decide | simp) (fun _ _ _ h => h) (fun _ ⟨hV, hW, _⟩ => x_indexV Try.underlying26 sz39 rfl (fr.ev rfl) hA9 (fr.ev rfl) (by omega) rfl) ⟨hV, hW, trivial⟩ ?_
      clear fr a; intro a fr
      refine fx_take (i := 3) (v := .agg (lnE.arr (la.getD i ln0))) fr rfl (by kernel_rfl) rfl rfl (by first | decide | simp) (fun _ _ _ h => h) (fun _ ⟨hV, hW, _⟩ => x_loadE (E := lnE) ag39 rfl rfl (fr.ev rfl) ((hV).elem hA9 i ln0 (by omega))) ⟨hV, hW, trivial⟩ ?_
      clear fr a; intro a fr
      refine fx_take (i := 4) (v := .slice B lb.length cb) fr rfl (by kernel_rfl) rfl rfl (by first | decide | simp) (fun _ _ _ h => h) (fun _ ⟨hV, hW, _⟩ => x_move rfl (fr.ev rfl)) ⟨hV, hW, trivial⟩ ?_
      clear fr a; intro a fr
      refine fx_take (i := 5) (v := .int .i64 ((i : Nat) : Int)) fr rfl (by kernel_rfl) rfl rfl (by first | decide | simp) (fun _ _ _ h => h) (fun _ ⟨hV, hW, _⟩ => x_move rfl (fr.ev rfl)) ⟨hV, hW, trivial⟩ ?_
      clear fr a; intro a fr
      obtain ⟨g10, o11, hA12⟩ := (hW).some_ (by omega)
      refine fx_take (i := 6) (v := .pointer (some ⟨g10, o11 + i * 18, none⟩)) fr rfl (by kernel_rfl) rfl rfl (by first | decide | simp) (fun _ _ _ h => h) (fun _ ⟨hV, hW, _⟩ => x_indexV Try.underlying26 sz39 rfl (fr.ev rfl) hA12 (fr.ev rfl) (by omega) rfl) ⟨hV, hW, trivial⟩ ?_
      clear fr a; intro a fr
      refine fx_take (i := 7) (v := .agg (lnE.arr (lb.getD i ln0))) fr rfl (by kernel_rfl) rfl rfl (by first | decide | simp) (fun _ _ _ h => h) (fun _ ⟨hV, hW, _⟩ => x_loadE (E := lnE) ag39 rfl rfl (fr.ev rfl) ((hW).elem hA12 i ln0 (by omega))) ⟨hV, hW, trivial⟩ ?_
      clear fr a; intro a fr
      refine fx_take (i := 8) (v := .bool (!decide ((la.getD i ln0) = (lb.getD i ln0)))) fr rfl (by kernel_rfl) rfl rfl (by first | decide | simp) (fun _ _ _ h => h) (fun _ ⟨hV, hW, _⟩ => x_neE lnER rfl rfl (fr.ev rfl) (fr.ev rfl) rfl) ⟨hV, hW, trivial⟩ ?_
      clear fr a; intro a fr
      refine fx_hdone (by kernel_rfl) ?_
      refine fx_next ?_
      refine fx_cond fr rfl (fun hc13 => ?_) (fun hc13 => ?_)
      · skip
        refine wp_seq ?_
        refine wp_region_lit ?_  -- region 7
        refine fx_val (v := .bool false) fr rfl rfl (by first | decide | simp) (x_assign rfl rfl) ?_
        clear fr a; intro a fr
        refine wpList_nil ?_
        refine fx_next ?_
        refine wp_ret ?_
        refine fx_rb ?_
        refine fx_rt ?_
        refine fx_rt ?_
        refine fx_rb ?_
        refine fx_rt ?_
        refine fx_ret fr [.tmp 4] [.bool false] rfl ⟨rfl, trivial⟩ rfl ?_
        exact ⟨_, rfl, congrArg Value.bool (decide_eq_false fun he => by rw [he] at hc13; simp at hc13).symm, hF⟩
      · skip
        refine wp_skip ?_
        refine fx_blk ?_
        refine fx_next ?_
        refine wp_region_lit ?_  -- region 5
        refine fx_val (v := .int .i64 ((i : Nat) : Int)) fr rfl rfl (by first | decide | simp) (x_move rfl (fr.ev rfl)) ?_
        clear fr a; intro a fr
        refine fx_val (v := .int .i64 ((i + 1 : Nat) : Int)) fr rfl rfl (by first | decide | simp) (x_add rfl (fr.ev rfl) rfl (i64w (r := ((i + 1 : Nat) : Int)) (by omega) (by omega))) ?_
        clear fr a; intro a fr
        refine fx_val (v := .int .i64 ((i + 1 : Nat) : Int)) fr rfl rfl (by first | decide | simp) (x_assign rfl (fr.ev rfl)) ?_
        clear fr a; intro a fr
        refine wpList_nil ?_
        refine fx_next ?_
        exact ⟨_, by omega, (i + 1), rfl, fr.sub ⟨rfl, rfl, rfl, rfl, trivial⟩, hF, hV, hW, by omega, fun j hj => by rcases Nat.lt_succ_iff_lt_or_eq.1 hj with h | rfl; exact hall j h; simpa using hc13⟩
    · skip
      have hc4 := of_decide_eq_false hc4
      refine wp_exit ?_
      refine fx_xt ?_
      refine fx_xt ?_
      refine fx_xx ?_
      refine fx_next ?_
      refine wp_seq ?_
      refine wp_region_lit ?_  -- region 8
      refine fx_val (v := .bool true) fr rfl rfl (by first | decide | simp) (x_assign rfl rfl) ?_
      clear fr a; intro a fr
      refine wpList_nil ?_
      refine fx_next ?_
      refine wp_ret ?_
      refine fx_ret fr [.tmp 4] [.bool true] rfl ⟨rfl, trivial⟩ rfl ?_
      exact ⟨_, rfl, congrArg Value.bool (decide_eq_true (ext_getD ln0 (by omega) fun j hj => hall j (by omega))).symm, hF⟩
set_option maxRecDepth 100000 in
set_option maxHeartbeats 4000000 in
theorem equal_c {w : World} {A B : Option Addr} {ca cb : Nat} {la lb : List Ln} (hV : View lnE w A ca la) (hW : View lnE w B cb lb) : Calls Try.prog 43 #[.slice A la.length ca, .slice B lb.length cb] w (Ret fun v w' => v = .bool (decide (la = lb)) ∧ New w w') := by
  have hVl := hV.len
  have hWl := hW.len
  unfold maxLen at hVl hWl
  have hF := Only.refl (fun _ => False) w
  refine fx_enter Try.func43 rfl (N := (26, [])) (T := [(0, .slice A la.length ca), (1, .slice B lb.length cb)]) rfl (show 2 ≤ 26 by decide) ⟨rfl, rfl, trivial⟩ fun a fr => ?_
  refine wp_seq ?_
  refine wp_region_lit ?_  -- region 0
  refine fx_val (v := .bool false) fr rfl rfl (by first | decide | simp) (x_assign rfl rfl) ?_
  clear fr a; intro a fr
  refine wpList_nil ?_
  refine fx_next ?_
  refine wp_seq ?_
  refine wp_seq ?_
  refine wp_region_lit ?_  -- region 1
  refine fx_val (v := .slice A la.length ca) fr rfl rfl (by first | decide | simp) (x_move rfl (fr.ev rfl)) ?_
  clear fr a; intro a fr
  refine fx_val (v := .int .i64 ((la.length : Nat) : Int)) fr rfl rfl (by first | decide | simp) (x_len Try.underlying26 rfl (fr.ev rfl)) ?_
  clear fr a; intro a fr
  refine fx_val (v := .slice B lb.length cb) fr rfl rfl (by first | decide | simp) (x_move rfl (fr.ev rfl)) ?_
  clear fr a; intro a fr
  refine fx_val (v := .int .i64 ((lb.length : Nat) : Int)) fr rfl rfl (by first | decide | simp) (x_len Try.underlying26 rfl (fr.ev rfl)) ?_
  clear fr a; intro a fr
  refine fx_val (v := .bool (decide (((la.length : Nat) : Int) ≠ ((lb.length : Nat) : Int)))) fr rfl rfl (by first | decide | simp) (x_neq rfl (fr.ev rfl) (fr.ev rfl) rfl) ?_
  clear fr a; intro a fr
  refine wpList_nil ?_
  refine fx_next ?_
  refine fx_cond fr rfl (fun hc1 => ?_) (fun hc1 => ?_)
  · skip
    have hc1 := of_decide_eq_true hc1
    refine wp_seq ?_
    refine wp_region_lit ?_  -- region 2
    refine fx_val (v := .bool false) fr rfl rfl (by first | decide | simp) (x_assign rfl rfl) ?_
    clear fr a; intro a fr
    refine wpList_nil ?_
    refine fx_next ?_
    refine wp_ret ?_
    refine fx_rt ?_
    refine fx_ret fr [.tmp 4] [.bool false] rfl ⟨rfl, trivial⟩ rfl ?_
    exact ⟨_, rfl, congrArg Value.bool (decide_eq_false fun he => hc1 (by rw [he])).symm, hF⟩
  · skip
    have hc1 := of_decide_eq_false hc1
    refine wp_skip ?_
    refine fx_next ?_
    refine wp_seq ?_
    refine wp_seq ?_
    refine wp_region_lit ?_  -- region 3
    refine fx_val (v := .slice A la.length ca) fr rfl rfl (by first | decide | simp) (x_move rfl (fr.ev rfl)) ?_
    clear fr a; intro a fr
    refine fx_val (v := .int .i64 ((la.length : Nat) : Int)) fr rfl rfl (by first | decide | simp) (x_len Try.underlying26 rfl (fr.ev rfl)) ?_
    clear fr a; intro a fr
    refine fx_val (v := .int .i64 0) fr rfl rfl (by first | decide | simp) (x_move rfl rfl) ?_
    clear fr a; intro a fr
    refine wpList_nil ?_
    refine fx_next ?_
    refine wp_block ?_
    refine fx_loop (fun nM a wL => ∃ i : Nat, nM = la.length - i ∧ Fr (26, []) [(0, .slice A la.length ca), (1, .slice B lb.length cb), (13, .int .i64 ((i : Nat) : Int)), (4, .bool false), (12, .int .i64 ((la.length : Nat) : Int))] a ∧ Only (fun _ => False) w wL ∧ View lnE wL A ca la ∧ View lnE wL B cb lb ∧ i ≤ la.length ∧ (∀ j, j < i → la.getD j ln0 = lb.getD j ln0)) (n0 := _) ⟨0, rfl, fr.sub ⟨rfl, rfl, rfl, rfl, rfl, trivial⟩, hF, hV, hW, by omega, (fun j hj => absurd hj (by omega))⟩ ?_
    rintro n3 a w2 ⟨i, rfl, fr, hF, hV, hW, hi, hall⟩
    refine wp_seq ?_
    refine wp_region_lit ?_  -- region 4
    refine fx_val (v := .bool (decide (((i : Nat) : Int) < ((la.length : Nat) : Int)))) fr rfl rfl (by first | decide | simp) (x_lss rfl (fr.ev rfl) (fr.ev rfl) rfl) ?_
    clear fr a; intro a fr
    refine wpList_nil ?_
    refine fx_next ?_
    refine wp_seq ?_
    refine fx_cond fr rfl (fun hc4 => ?_) (fun hc4 => ?_)
    · skip
      have hc4 := of_decide_eq_true hc4
      refine wp_skip ?_
      refine fx_next ?_
      refine wp_seq ?_
      refine wp_block ?_
      refine wp_seq ?_
      refine wp_region_lit ?_  -- region 5
      refine fx_val (v := .int .i64 ((i : Nat) : Int)) fr rfl rfl (by first | decide | simp) (x_move rfl (fr.ev rfl)) ?_
      clear fr a; intro a fr
      refine fx_val (v := .int .i64 ((i : Nat) : Int)) fr rfl rfl (by first | decide | simp) (x_assign rfl (fr.ev rfl)) ?_
      clear fr a; intro a fr
      refine wpList_nil ?_
      refine fx_next ?_
      refine wp_seq ?_
      refine fx_held (n := 9) (fun w => View lnE w A ca la ∧ View lnE w B cb lb ∧ True) (by kernel_rfl) rfl ?_  -- region 6
      intro w5 hN6
      replace hV := hV.new hN6
      replace hW := hW.new hN6
      replace hF := hF.trNew hN6
      refine fx_take (i := 0) (v := .slice A la.length ca) fr rfl (by kernel_rfl) rfl rfl (by first | decide | simp) (fun _ _ _ h => h) (fun _ ⟨hV, hW, _⟩ => x_move rfl (fr.ev rfl)) ⟨hV, hW, trivial⟩ ?_
      clear fr a; intro a fr
      refine fx_take (i := 1) (v := .int .i64 ((i : Nat) : Int)) fr rfl (by kernel_rfl) rfl rfl (by first | decide | simp) (fun _ _ _ h => h) (fun _ ⟨hV, hW, _⟩ => x_move rfl (fr.ev rfl)) ⟨hV, hW, trivial⟩ ?_
      clear fr a; intro a fr
      obtain ⟨g7, o8, hA9⟩ := (hV).some_ (by omega)
      refine fx_take (i := 2) (v := .pointer (some ⟨g7, o8 + i * 18, none⟩)) fr rfl (by kernel_rfl) rfl rfl (by first | decide | simp) (fun _ _ _ h => h) (fun _ ⟨hV, hW, _⟩ => x_indexV Try.underlying26 sz39 rfl (fr.ev rfl) hA9 (fr.ev rfl) (by omega) rfl) ⟨hV, hW, trivial⟩ ?_
      clear fr a; intro a fr
      refine fx_take (i := 3) (v := .agg (lnE.arr (la.getD i ln0))) fr rfl (by kernel_rfl) rfl rfl (by first | decide | simp) (fun _ _ _ h => h) (fun _ ⟨hV, hW, _⟩ => x_loadE (E := lnE) ag39 rfl rfl (fr.ev rfl) ((hV).elem hA9 i ln0 (by omega))) ⟨hV, hW, trivial⟩ ?_
      clear fr a; intro a fr
      refine fx_take (i := 4) (v := .slice B lb.length cb) fr rfl (by kernel_rfl) rfl rfl (by first | decide | simp) (fun _ _ _ h => h) (fun _ ⟨hV, hW, _⟩ => x_move rfl (fr.ev rfl)) ⟨hV, hW, trivial⟩ ?_
      clear fr a; intro a fr
      refine fx_take (i := 5) (v := .int .i64 ((i : Nat) : Int)) fr rfl (by kernel_rfl) rfl rfl (by first | decide | simp) (fun _ _ _ h => h) (fun _ ⟨hV, hW, _⟩ => x_move rfl (fr.ev rfl)) ⟨hV, hW, trivial⟩ ?_
      clear fr a; intro a fr
      obtain ⟨g10, o11, hA12⟩ := (hW).some_ (by omega)
      refine fx_take (i := 6) (v := .pointer (some ⟨g10, o11 + i * 18, none⟩)) fr rfl (by kernel_rfl) rfl rfl (by first | decide | simp) (fun _ _ _ h => h) (fun _ ⟨hV, hW, _⟩ => x_indexV Try.underlying26 sz39 rfl (fr.ev rfl) hA12 (fr.ev rfl) (by omega) rfl) ⟨hV, hW, trivial⟩ ?_
      clear fr a; intro a fr
      refine fx_take (i := 7) (v := .agg (lnE.arr (lb.getD i ln0))) fr rfl (by kernel_rfl) rfl rfl (by first | decide | simp) (fun _ _ _ h => h) (fun _ ⟨hV, hW, _⟩ => x_loadE (E := lnE) ag39 rfl rfl (fr.ev rfl) ((hW).elem hA12 i ln0 (by omega))) ⟨hV, hW, trivial⟩ ?_
      clear fr a; intro a fr
      refine fx_take (i := 8) (v := .bool (!decide ((la.getD i ln0) = (lb.getD i ln0)))) fr rfl (by kernel_rfl) rfl rfl (by first | decide | simp) (fun _ _ _ h => h) (fun _ ⟨hV, hW, _⟩ => x_neE lnER rfl rfl (fr.ev rfl) (fr.ev rfl) rfl) ⟨hV, hW, trivial⟩ ?_
      clear fr a; intro a fr
      refine fx_hdone (by kernel_rfl) ?_
      refine fx_next ?_
      refine fx_cond fr rfl (fun hc13 => ?_) (fun hc13 => ?_)
      · skip
        refine wp_seq ?_
        refine wp_region_lit ?_  -- region 7
        refine fx_val (v := .bool false) fr rfl rfl (by first | decide | simp) (x_assign rfl rfl) ?_
        clear fr a; intro a fr
        refine wpList_nil ?_
        refine fx_next ?_
        refine wp_ret ?_
        refine fx_rb ?_
        refine fx_rt ?_
        refine fx_rt ?_
        refine fx_rb ?_
        refine fx_rt ?_
        refine fx_ret fr [.tmp 4] [.bool false] rfl ⟨rfl, trivial⟩ rfl ?_
        exact ⟨_, rfl, congrArg Value.bool (decide_eq_false fun he => by rw [he] at hc13; simp at hc13).symm, hF⟩
      · skip
        refine wp_skip ?_
        refine fx_blk ?_
        refine fx_next ?_
        refine wp_region_lit ?_  -- region 8
        refine fx_val (v := .int .i64 ((i + 1 : Nat) : Int)) fr rfl rfl (by first | decide | simp) (x_add rfl (fr.ev rfl) rfl (i64w (r := ((i + 1 : Nat) : Int)) (by omega) (by omega))) ?_
        clear fr a; intro a fr
        refine fx_val (v := .int .i64 ((i + 1 : Nat) : Int)) fr rfl rfl (by first | decide | simp) (x_move rfl (fr.ev rfl)) ?_
        clear fr a; intro a fr
        refine wpList_nil ?_
        refine fx_next ?_
        exact ⟨_, by omega, (i + 1), rfl, fr.sub ⟨rfl, rfl, rfl, rfl, rfl, trivial⟩, hF, hV, hW, by omega, fun j hj => by rcases Nat.lt_succ_iff_lt_or_eq.1 hj with h | rfl; exact hall j h; simpa using hc13⟩
    · skip
      have hc4 := of_decide_eq_false hc4
      refine wp_exit ?_
      refine fx_xt ?_
      refine fx_xt ?_
      refine fx_xx ?_
      refine fx_next ?_
      refine wp_seq ?_
      refine wp_region_lit ?_  -- region 9
      refine fx_val (v := .bool true) fr rfl rfl (by first | decide | simp) (x_assign rfl rfl) ?_
      clear fr a; intro a fr
      refine wpList_nil ?_
      refine fx_next ?_
      refine wp_ret ?_
      refine fx_ret fr [.tmp 4] [.bool true] rfl ⟨rfl, trivial⟩ rfl ?_
      exact ⟨_, rfl, congrArg Value.bool (decide_eq_true (ext_getD ln0 (by omega) fun j hj => hall j (by omega))).symm, hF⟩
set_option maxRecDepth 100000 in
set_option maxHeartbeats 4000000 in
theorem like_c {w : World} {A B : Option Addr} {ca cb : Nat} {la lb : List Ln} (hV : View lnE w A ca la) (hW : View lnE w B cb lb) : Calls Try.prog 39 #[.slice A la.length ca, .slice B lb.length cb] w (Ret fun v w' => v = .bool (decide (la = lb)) ∧ New w w') := by
  have hF := Only.refl (fun _ => False) w
  refine fx_enter Try.func39 rfl (N := (8, [])) (T := [(0, .slice A la.length ca), (1, .slice B lb.length cb)]) rfl (show 2 ≤ 8 by decide) ⟨rfl, rfl, trivial⟩ fun a fr => ?_
  refine wp_seq ?_
  refine wp_region_lit ?_  -- region 0
  refine fx_val (v := .bool false) fr rfl rfl (by first | decide | simp) (x_assign rfl rfl) ?_
  clear fr a; intro a fr
  refine wpList_nil ?_
  refine fx_next ?_
  refine wp_seq ?_
  refine wp_region_lit ?_  -- region 1
  refine fx_val (v := .slice A la.length ca) fr rfl rfl (by first | decide | simp) (x_move rfl (fr.ev rfl)) ?_
  clear fr a; intro a fr
  refine fx_val (v := .slice B lb.length cb) fr rfl rfl (by first | decide | simp) (x_move rfl (fr.ev rfl)) ?_
  clear fr a; intro a fr
  refine fx_call fr rfl rfl (by first | decide | simp) (x_call (vs := [.slice A la.length ca, .slice B lb.length cb]) rfl rfl ⟨(fr.ev rfl), (fr.ev rfl), trivial⟩ Try.func43 nm43 rfl) (equal_c (la := la) (lb := lb) (hV) (hW)) ?_
  clear fr a
  rintro v w1 ⟨rfl, hN2⟩ a fr
  replace hV := hV.new hN2
  replace hW := hW.new hN2
  replace hF := hF.trNew hN2
  refine fx_val (v := .bool (decide (la = lb))) fr rfl rfl (by first | decide | simp) (x_assign rfl (fr.ev rfl)) ?_
  clear fr a; intro a fr
  refine wpList_nil ?_
  refine fx_next ?_
  refine wp_ret ?_
  refine fx_ret fr [.tmp 4] [.bool (decide (la = lb))] rfl ⟨rfl, trivial⟩ rfl ?_
  exact ⟨_, rfl, rfl, hF⟩
set_option maxRecDepth 100000 in
set_option maxHeartbeats 4000000 in
theorem equalf_c {w : World} {S S2 n n2 : Nat} {FpR FpQ : Nat → Prop} {rs qs : List Row} (hS : Blk w S 26 (rowsArr rs)) (hR : RowsAt w FpR rs) (hS2 : Blk w S2 26 (rowsArr qs)) (hR2 : RowsAt w FpQ qs) (hlen : rs.length = n) (hlen2 : qs.length = n2) (hn : n ≤ 64 ∧ n2 ≤ 64) : Calls Try.prog 38 #[.slice (some ⟨S, 0, none⟩) n n, .slice (some ⟨S2, 0, none⟩) n2 n2, .func (.func 39) #[] #[]] w (Ret fun v w' => ∃ bb, v = .bool bb ∧ (bb = true ↔ n = n2 ∧ ∀ i, i < n → (rs.getD i r0).l = (qs.getD i r0).l) ∧ New w w') := by
  have hF := Only.refl (fun _ => False) w
  refine fx_enter Try.func38 rfl (N := (32, [])) (T := [(0, .slice (some ⟨S, 0, none⟩) n n), (1, .slice (some ⟨S2, 0, none⟩) n2 n2), (2, .func (.func 39) #[] #[])]) rfl (show 3 ≤ 32 by decide) ⟨rfl, rfl, rfl, trivial⟩ fun a fr => ?_
  refine wp_seq ?_
  refine wp_region_lit ?_  -- region 0
  refine fx_val (v := .bool false) fr rfl rfl (by first | decide | simp) (x_assign rfl rfl) ?_
  clear fr a; intro a fr
  refine wpList_nil ?_
  refine fx_next ?_
  refine wp_seq ?_
  refine wp_seq ?_
  refine wp_region_lit ?_  -- region 1
  refine fx_val (v := .slice (some ⟨S, 0, none⟩) n n) fr rfl rfl (by first | decide | simp) (x_move rfl (fr.ev rfl)) ?_
  clear fr a; intro a fr
  refine fx_val (v := .int .i64 ((n : Nat) : Int)) fr rfl rfl (by first | decide | simp) (x_len Try.underlying72 rfl (fr.ev rfl)) ?_
  clear fr a; intro a fr
  refine fx_val (v := .slice (some ⟨S2, 0, none⟩) n2 n2) fr rfl rfl (by first | decide | simp) (x_move rfl (fr.ev rfl)) ?_
  clear fr a; intro a fr
  refine fx_val (v := .int .i64 ((n2 : Nat) : Int)) fr rfl rfl (by first | decide | simp) (x_len Try.underlying72 rfl (fr.ev rfl)) ?_
  clear fr a; intro a fr
  refine fx_val (v := .bool (decide (((n : Nat) : Int) ≠ ((n2 : Nat) : Int)))) fr rfl rfl (by first | decide | simp) (x_neq rfl (fr.ev rfl) (fr.ev rfl) rfl) ?_
  clear fr a; intro a fr
  refine wpList_nil ?_
  refine fx_next ?_
  refine fx_cond fr rfl (fun hc1 => ?_) (fun hc1 => ?_)
  · skip
    have hc1 := of_decide_eq_true hc1
    refine wp_seq ?_
    refine wp_region_lit ?_  -- region 2
    refine fx_val (v := .bool false) fr rfl rfl (by first | decide | simp) (x_assign rfl rfl) ?_
    clear fr a; intro a fr
    refine wpList_nil ?_
    refine fx_next ?_
    refine wp_ret ?_
    refine fx_rt ?_
    refine fx_ret fr [.tmp 6] [.bool false] rfl ⟨rfl, trivial⟩ rfl ?_
    exact ⟨_, rfl, false, rfl, ⟨(fun h => by cases h), fun h => by omega⟩, hF⟩
  · skip
    have hc1 := of_decide_eq_false hc1
    refine wp_skip ?_
    refine fx_next ?_
    refine wp_seq ?_
    refine wp_seq ?_
    refine wp_region_lit ?_  -- region 3
    refine fx_val (v := .slice (some ⟨S, 0, none⟩) n n) fr rfl rfl (by first | decide | simp) (x_move rfl (fr.ev rfl)) ?_
    clear fr a; intro a fr
    refine fx_val (v := .int .i64 ((n : Nat) : Int)) fr rfl rfl (by first | decide | simp) (x_len Try.underlying72 rfl (fr.ev rfl)) ?_
    clear fr a; intro a fr
    refine fx_val (v := .int .i64 0) fr rfl rfl (by first | decide | simp) (x_move rfl rfl) ?_
    clear fr a; intro a fr
    refine wpList_nil ?_
    refine fx_next ?_
    refine wp_block ?_
    refine fx_loop (fun nM a wL => ∃ i : Nat, nM = n - i ∧ Fr (32, []) [(0, .slice (some ⟨S, 0, none⟩) n n), (1, .slice (some ⟨S2, 0, none⟩) n2 n2), (2, .func (.func 39) #[] #[]), (15, .slice (some ⟨S, 0, none⟩) n n), (16, .int .i64 ((n : Nat) : Int)), (17, .int .i64 ((i : Nat) : Int))] a ∧ Only (fun _ => False) w wL ∧ Blk wL S 26 (rowsArr rs) ∧ RowsAt wL FpR rs ∧ Blk wL S2 26 (rowsArr qs) ∧ RowsAt wL FpQ qs ∧ i ≤ n ∧ (∀ j, j < i → (rs.getD j r0).l = (qs.getD j r0).l)) (n0 := _) ⟨0, rfl, fr.sub ⟨rfl, rfl, rfl, rfl, rfl, rfl, trivial⟩, hF, hS, hR, hS2, hR2, by omega, (fun j hj => absurd hj (by omega))⟩ ?_
    rintro n3 a w2 ⟨i, rfl, fr, hF, hS, hR, hS2, hR2, hi, hall⟩
    refine wp_seq ?_
    refine wp_region_lit ?_  -- region 4
    refine fx_val (v := .bool (decide (((i : Nat) : Int) < ((n : Nat) : Int)))) fr rfl rfl (by first | decide | simp) (x_lss rfl (fr.ev rfl) (fr.ev rfl) rfl) ?_
    clear fr a; intro a fr
    refine wpList_nil ?_
    refine fx_next ?_
    refine wp_seq ?_
    refine fx_cond fr rfl (fun hc4 => ?_) (fun hc4 => ?_)
    · skip
      have hc4 := of_decide_eq_true hc4
      refine wp_skip ?_
      refine fx_next ?_
      refine wp_seq ?_
      refine wp_block ?_
      refine wp_seq ?_
      obtain ⟨rA, rc, rl, hr⟩ : ∃ A9 c9 l9, rs.getD i r0 = ⟨A9, c9, l9⟩ := ⟨_, _, _, rfl⟩
      obtain ⟨qA, qc, ql, hq⟩ : ∃ A9 c9 l9, qs.getD i r0 = ⟨A9, c9, l9⟩ := ⟨_, _, _, rfl⟩
      refine wp_region_lit ?_  -- region 5
      refine fx_val (v := .int .i64 ((i : Nat) : Int)) fr rfl rfl (by first | decide | simp) (x_move rfl (fr.ev rfl)) ?_
      clear fr a; intro a fr
      refine fx_val (v := .pointer (some ⟨S, i, none⟩)) fr rfl rfl (by first | decide | simp) (x_indexV Try.underlying72 sz26 rfl (fr.ev rfl) (show (some ⟨S, 0, none⟩ : Option Addr) = some ⟨S, 0, none⟩ from rfl) (fr.ev rfl) (by omega) (show 0 + i * 1 = i by omega)) ?_
      clear fr a; intro a fr
      refine fx_val (v := .slice rA rl.length rc) fr rfl rfl (by first | decide | simp) (x_load1 pl26 rfl (fr.ev rfl) (hS.cell i (rows_cellAt (by omega) hr))) ?_
      clear fr a; intro a fr
      refine fx_val (v := .int .i64 ((i : Nat) : Int)) fr rfl rfl (by first | decide | simp) (x_assign rfl (fr.ev rfl)) ?_
      clear fr a; intro a fr
      refine fx_val (v := .slice rA rl.length rc) fr rfl rfl (by first | decide | simp) (x_assign rfl (fr.ev rfl)) ?_
      clear fr a; intro a fr
      refine wpList_nil ?_
      refine fx_next ?_
      refine wp_seq ?_
      refine wp_region_lit ?_  -- region 6
      refine fx_val (v := .slice (some ⟨S2, 0, none⟩) n2 n2) fr rfl rfl (by first | decide | simp) (x_move rfl (fr.ev rfl)) ?_
      clear fr a; intro a fr
      refine fx_val (v := .int .i64 ((i : Nat) : Int)) fr rfl rfl (by first | decide | simp) (x_move rfl (fr.ev rfl)) ?_
      clear fr a; intro a fr
      refine fx_val (v := .pointer (some ⟨S2, i, none⟩)) fr rfl rfl (by first | decide | simp) (x_indexV Try.underlying72 sz26 rfl (fr.ev rfl) (show (some ⟨S2, 0, none⟩ : Option Addr) = some ⟨S2, 0, none⟩ from rfl) (fr.ev rfl) (by omega) (show 0 + i * 1 = i by omega)) ?_
      clear fr a; intro a fr
      refine fx_val (v := .slice qA ql.length qc) fr rfl rfl (by first | decide | simp) (x_load1 pl26 rfl (fr.ev rfl) (hS2.cell i (rows_cellAt (by omega) hq))) ?_
      clear fr a; intro a fr
      refine fx_val (v := .slice qA ql.length qc) fr rfl rfl (by first | decide | simp) (x_assign rfl (fr.ev rfl)) ?_
      clear fr a; intro a fr
      refine wpList_nil ?_
      refine fx_next ?_
      refine wp_seq ?_
      refine wp_region_lit ?_  -- region 7
      refine fx_val (v := .func (.func 39) #[] #[]) fr rfl rfl (by first | decide | simp) (x_move rfl (fr.ev rfl)) ?_
      clear fr a; intro a fr
      refine fx_val (v := .slice rA rl.length rc) fr rfl rfl (by first | decide | simp) (x_move rfl (fr.ev rfl)) ?_
      clear fr a; intro a fr
      refine fx_val (v := .slice qA ql.length qc) fr rfl rfl (by first | decide | simp) (x_move rfl (fr.ev rfl)) ?_
      clear fr a; intro a fr
      refine fx_call fr rfl rfl (by first | decide | simp) (x_callv (all := #[.slice rA rl.length rc, .slice qA ql.length qc]) (vs := [.slice rA rl.length rc, .slice qA ql.length qc]) rfl (fr.ev rfl) ⟨(fr.ev rfl), (fr.ev rfl), trivial⟩ rfl Try.func39 nm39 rfl) (like_c (la := rl) (lb := ql) ((hR.at_ (by omega) hr).view) ((hR2.at_ (by omega) hq).view)) ?_
      clear fr a
      rintro v w5 ⟨rfl, hN6⟩ a fr
      replace hS := hS.new hN6
      replace hR := hR.new hN6
      replace hS2 := hS2.new hN6
      replace hR2 := hR2.new hN6
      replace hF := hF.trNew hN6
      refine fx_val (v := .bool (decide (¬ (rl = ql)))) fr rfl rfl (by first | decide | simp) (x_not rfl (fr.ev rfl) (by simp)) ?_
      clear fr a; intro a fr
      refine wpList_nil ?_
      refine fx_next ?_
      refine fx_cond fr rfl (fun hc7 => ?_) (fun hc7 => ?_)
      · skip
        have hc7 := of_decide_eq_true hc7
        refine wp_seq ?_
        refine wp_region_lit ?_  -- region 8
        refine fx_val (v := .bool false) fr rfl rfl (by first | decide | simp) (x_assign rfl rfl) ?_
        clear fr a; intro a fr
        refine wpList_nil ?_
        refine fx_next ?_
        refine wp_ret ?_
        refine fx_rb ?_
        refine fx_rt ?_
        refine fx_rt ?_
        refine fx_rb ?_
        refine fx_rt ?_
        refine fx_ret fr [.tmp 6] [.bool false] rfl ⟨rfl, trivial⟩ rfl ?_
        exact ⟨_, rfl, false, rfl, ⟨(fun h => by cases h), fun h => by have h9 := h.2 i (by omega); rw [hr, hq] at h9; exact absurd h9 hc7⟩, hF⟩
      · skip
        have hc7 := of_decide_eq_false hc7
        refine wp_skip ?_
        refine fx_blk ?_
        refine fx_next ?_
        refine wp_region_lit ?_  -- region 9
        refine fx_val (v := .int .i64 ((i + 1 : Nat) : Int)) fr rfl rfl (by first | decide | simp) (x_add rfl (fr.ev rfl) rfl (i64w (r := ((i + 1 : Nat) : Int)) (by omega) (by omega))) ?_
        clear fr a; intro a fr
        refine fx_val (v := .int .i64 ((i + 1 : Nat) : Int)) fr rfl rfl (by first | decide | simp) (x_move rfl (fr.ev rfl)) ?_
        clear fr a; intro a fr
        refine wpList_nil ?_
        refine fx_next ?_
        exact ⟨_, by omega, (i + 1), rfl, fr.sub ⟨rfl, rfl, rfl, rfl, rfl, rfl, trivial⟩, hF, hS, hR, hS2, hR2, by omega, fun j hj => by rcases Nat.lt_succ_iff_lt_or_eq.1 hj with h9 | rfl; exact hall j h9; rw [hr, hq]; exact (Classical.not_not.1 hc7)⟩
    · skip
      have hc4 := of_decide_eq_false hc4
      refine wp_exit ?_
      refine fx_xt ?_
      refine fx_xt ?_
      refine fx_xx ?_
      refine fx_next ?_
      refine wp_seq ?_
      refine wp_region_lit ?_  -- region 10
      refine fx_val (v := .bool true) fr rfl rfl (by first | decide | simp) (x_assign rfl rfl) ?_
      clear fr a; intro a fr
      refine wpList_nil ?_
      refine fx_next ?_
      refine wp_ret ?_
      refine fx_ret fr [.tmp 6] [.bool true] rfl ⟨rfl, trivial⟩ rfl ?_
      exact ⟨_, rfl, true, rfl, ⟨fun _ => ⟨by omega, fun j hj => hall j (by omega)⟩, fun _ => rfl⟩, hF⟩
set_option maxRecDepth 100000 in
set_option maxHeartbeats 4000000 in
theorem same_nn (w : World) : Calls Try.prog 27 #[.pointer none, .pointer none] w (Ret fun v w' => v = .bool true ∧ w' = w) := by
  refine fx_enter Try.func27 rfl (N := (37, [])) (T := [(0, .pointer none), (1, .pointer none)]) rfl (show 2 ≤ 37 by decide) ⟨rfl, rfl, trivial⟩ fun a fr => ?_
  refine wp_seq ?_
  refine wp_region_lit ?_  -- region 0
  refine fx_val (v := .bool false) fr rfl rfl (by first | decide | simp) (x_assign rfl rfl) ?_
  clear fr a; intro a fr
  refine wpList_nil ?_
  refine fx_next ?_
  refine wp_seq ?_
  refine wp_seq ?_
  refine wp_region_lit ?_  -- region 1
  refine fx_val (v := .pointer none) fr rfl rfl (by first | decide | simp) (x_move rfl (fr.ev rfl)) ?_
  clear fr a; intro a fr
  refine fx_call fr rfl rfl (by first | decide | simp) (x_call (vs := [.pointer none]) rfl rfl ⟨(fr.ev rfl), trivial⟩ Try.func31 nm31 rfl) (none_nil _) ?_
  clear fr a
  rintro v w9 ⟨rfl, hw9⟩ a fr
  obtain rfl := hw9.symm
  refine fx_val (v := .bool true) fr rfl rfl (by first | decide | simp) (x_move rfl (fr.ev rfl)) ?_
  clear fr a; intro a fr
  refine fx_skip fr (fr.unwant rfl rfl rfl (by decide)) rfl (by first | decide | simp) ?_
  clear fr a; intro a fr
  refine fx_skip fr (fr.unwant rfl rfl rfl (by decide)) rfl (by first | decide | simp) ?_
  clear fr a; intro a fr
  refine fx_val (v := .bool true) fr rfl rfl (by first | decide | simp) (x_pick_t rfl (fr.ev rfl) rfl) ?_
  clear fr a; intro a fr
  refine wpList_nil ?_
  refine fx_next ?_
  refine fx_cond_t fr rfl ?_
  refine wp_seq ?_
  refine wp_region_lit ?_  -- region 2
  refine fx_val (v := .pointer none) fr rfl rfl (by first | decide | simp) (x_move rfl (fr.ev rfl)) ?_
  clear fr a; intro a fr
  refine fx_call fr rfl rfl (by first | decide | simp) (x_call (vs := [.pointer none]) rfl rfl ⟨(fr.ev rfl), trivial⟩ Try.func31 nm31 rfl) (none_nil _) ?_
  clear fr a
  rintro v w9 ⟨rfl, hw9⟩ a fr
  obtain rfl := hw9.symm
  refine fx_val (v := .bool true) fr rfl rfl (by first | decide | simp) (x_move rfl (fr.ev rfl)) ?_
  clear fr a; intro a fr
  refine fx_val (v := .pointer none) fr (fr.want rfl rfl rfl) rfl (by first | decide | simp) (x_move rfl (fr.ev rfl)) ?_
  clear fr a; intro a fr
  refine fx_call fr (fr.want rfl rfl rfl) rfl (by first | decide | simp) (x_call (vs := [.pointer none]) rfl rfl ⟨(fr.ev rfl), trivial⟩ Try.func31 nm31 rfl) (none_nil _) ?_
  clear fr a
  rintro v w9 ⟨rfl, hw9⟩ a fr
  obtain rfl := hw9.symm
  refine fx_val (v := .bool true) fr rfl rfl (by first | decide | simp) (x_pick_t rfl (fr.ev rfl) (fr.ev rfl)) ?_
  clear fr a; intro a fr
  refine fx_val (v := .bool true) fr rfl rfl (by first | decide | simp) (x_assign rfl (fr.ev rfl)) ?_
  clear fr a; intro a fr
  refine wpList_nil ?_
  refine fx_next ?_
  refine wp_ret ?_
  refine fx_rt ?_
  refine fx_ret fr [.tmp 4] [.bool true] rfl ⟨rfl, trivial⟩ rfl ?_
  exact ⟨_, rfl, rfl, rfl⟩
set_option maxRecDepth 100000 in
set_option maxHeartbeats 4000000 in
theorem same_nx {w : World} {Fp : Nat → Prop} {b n : Nat} {ways : Int} {L : List Ln} (H : LinesAt w Fp b n ways L) : Calls Try.prog 27 #[.pointer none, .pointer (some ⟨b, 0, none⟩)] w (Ret fun v w' => v = .bool false ∧ w' = w) := by
  obtain ⟨S, FpR, rs, hB, hS, hR, hP⟩ := H
  have hlen := hP.len
  obtain ⟨hn1, hn2, hw1, hw2⟩ := hP.bd
  refine fx_enter Try.func27 rfl (N := (37, [])) (T := [(0, .pointer none), (1, .pointer (some ⟨b, 0, none⟩))]) rfl (show 2 ≤ 37 by decide) ⟨rfl, rfl, trivial⟩ fun a fr => ?_
  refine wp_seq ?_
  refine wp_region_lit ?_  -- region 0
  refine fx_val (v := .bool false) fr rfl rfl (by first | decide | simp) (x_assign rfl rfl) ?_
  clear fr a; intro a fr
  refine wpList_nil ?_
  refine fx_next ?_
  refine wp_seq ?_
  refine wp_seq ?_
  refine wp_region_lit ?_  -- region 1
  refine fx_val (v := .pointer none) fr rfl rfl (by first | decide | simp) (x_move rfl (fr.ev rfl)) ?_
  clear fr a; intro a fr
  refine fx_call fr rfl rfl (by first | decide | simp) (x_call (vs := [.pointer none]) rfl rfl ⟨(fr.ev rfl), trivial⟩ Try.func31 nm31 rfl) (none_nil _) ?_
  clear fr a
  rintro v w9 ⟨rfl, hw9⟩ a fr
  obtain rfl := hw9.symm
  refine fx_val (v := .bool true) fr rfl rfl (by first | decide | simp) (x_move rfl (fr.ev rfl)) ?_
  clear fr a; intro a fr
  refine fx_skip fr (fr.unwant rfl rfl rfl (by decide)) rfl (by first | decide | simp) ?_
  clear fr a; intro a fr
  refine fx_skip fr (fr.unwant rfl rfl rfl (by decide)) rfl (by first | decide | simp) ?_
  clear fr a; intro a fr
  refine fx_val (v := .bool true) fr rfl rfl (by first | decide | simp) (x_pick_t rfl (fr.ev rfl) rfl) ?_
  clear fr a; intro a fr
  refine wpList_nil ?_
  refine fx_next ?_
  refine fx_cond_t fr rfl ?_
  refine wp_seq ?_
  refine wp_region_lit ?_  -- region 2
  refine fx_val (v := .pointer none) fr rfl rfl (by first | decide | simp) (x_move rfl (fr.ev rfl)) ?_
  clear fr a; intro a fr
  refine fx_call fr rfl rfl (by first | decide | simp) (x_call (vs := [.pointer none]) rfl rfl ⟨(fr.ev rfl), trivial⟩ Try.func31 nm31 rfl) (none_nil _) ?_
  clear fr a
  rintro v w9 ⟨rfl, hw9⟩ a fr
  obtain rfl := hw9.symm
  refine fx_val (v := .bool true) fr rfl rfl (by first | decide | simp) (x_move rfl (fr.ev rfl)) ?_
  clear fr a; intro a fr
  refine fx_val (v := .pointer (some ⟨b, 0, none⟩)) fr (fr.want rfl rfl rfl) rfl (by first | decide | simp) (x_move rfl (fr.ev rfl)) ?_
  clear fr a; intro a fr
  refine fx_call fr (fr.want rfl rfl rfl) rfl (by first | decide | simp) (x_call (vs := [.pointer (some ⟨b, 0, none⟩)]) rfl rfl ⟨(fr.ev rfl), trivial⟩ Try.func31 nm31 rfl) (none_some hB (by omega)) ?_
  clear fr a
  rintro v w9 ⟨rfl, hw9⟩ a fr
  obtain rfl := hw9.symm
  refine fx_val (v := .bool false) fr rfl rfl (by first | decide | simp) (x_pick_t rfl (fr.ev rfl) (fr.ev rfl)) ?_
  clear fr a; intro a fr
  refine fx_val (v := .bool false) fr rfl rfl (by first | decide | simp) (x_assign rfl (fr.ev rfl)) ?_
  clear fr a; intro a fr
  refine wpList_nil ?_
  refine fx_next ?_
  refine wp_ret ?_
  refine fx_rt ?_
  refine fx_ret fr [.tmp 4] [.bool false] rfl ⟨rfl, trivial⟩ rfl ?_
  exact ⟨_, rfl, rfl, rfl⟩
set_option maxRecDepth 100000 in
set_option maxHeartbeats 4000000 in
theorem same_xn {w : World} {Fp : Nat → Prop} {b n : Nat} {ways : Int} {L : List Ln} (H : LinesAt w Fp b n ways L) : Calls Try.prog 27 #[.pointer (some ⟨b, 0, none⟩), .pointer none] w (Ret fun v w' => v = .bool false ∧ w' = w) := by
  obtain ⟨S, FpR, rs, hB, hS, hR, hP⟩ := H
  have hlen := hP.len
  obtain ⟨hn1, hn2, hw1, hw2⟩ := hP.bd
  refine fx_enter Try.func27 rfl (N := (37, [])) (T := [(0, .pointer (some ⟨b, 0, none⟩)), (1, .pointer none)]) rfl (show 2 ≤ 37 by decide) ⟨rfl, rfl, trivial⟩ fun a fr => ?_
  refine wp_seq ?_
  refine wp_region_lit ?_  -- region 0
  refine fx_val (v := .bool false) fr rfl rfl (by first | decide | simp) (x_assign rfl rfl) ?_
  clear fr a; intro a fr
  refine wpList_nil ?_
  refine fx_next ?_
  refine wp_seq ?_
  refine wp_seq ?_
  refine wp_region_lit ?_  -- region 1
  refine fx_val (v := .pointer (some ⟨b, 0, none⟩)) fr rfl rfl (by first | decide | simp) (x_move rfl (fr.ev rfl)) ?_
  clear fr a; intro a fr
  refine fx_call fr rfl rfl (by first | decide | simp) (x_call (vs := [.pointer (some ⟨b, 0, none⟩)]) rfl rfl ⟨(fr.ev rfl), trivial⟩ Try.func31 nm31 rfl) (none_some hB (by omega)) ?_
  clear fr a
  rintro v w9 ⟨rfl, hw9⟩ a fr
  obtain rfl := hw9.symm
  refine fx_val (v := .bool false) fr rfl rfl (by first | decide | simp) (x_move rfl (fr.ev rfl)) ?_
  clear fr a; intro a fr
  refine fx_val (v := .pointer none) fr (fr.want rfl rfl rfl) rfl (by first | decide | simp) (x_move rfl (fr.ev rfl)) ?_
  clear fr a; intro a fr
  refine fx_call fr (fr.want rfl rfl rfl) rfl (by first | decide | simp) (x_call (vs := [.pointer none]) rfl rfl ⟨(fr.ev rfl), trivial⟩ Try.func31 nm31 rfl) (none_nil _) ?_
  clear fr a
  rintro v w9 ⟨rfl, hw9⟩ a fr
  obtain rfl := hw9.symm
  refine fx_val (v := .bool true) fr rfl rfl (by first | decide | simp) (x_pick_f rfl (fr.ev rfl) (fr.ev rfl)) ?_
  clear fr a; intro a fr
  refine wpList_nil ?_
  refine fx_next ?_
  refine fx_cond_t fr rfl ?_
  refine wp_seq ?_
  refine wp_region_lit ?_  -- region 2
  refine fx_val (v := .pointer (some ⟨b, 0, none⟩)) fr rfl rfl (by first | decide | simp) (x_move rfl (fr.ev rfl)) ?_
  clear fr a; intro a fr
  refine fx_call fr rfl rfl (by first | decide | simp) (x_call (vs := [.pointer (some ⟨b, 0, none⟩)]) rfl rfl ⟨(fr.ev rfl), trivial⟩ Try.func31 nm31 rfl) (none_some hB (by omega)) ?_
  clear fr a
  rintro v w9 ⟨rfl, hw9⟩ a fr
  obtain rfl := hw9.symm
  refine fx_val (v := .bool false) fr rfl rfl (by first | decide | simp) (x_move rfl (fr.ev rfl)) ?_
  clear fr a; intro a fr
  refine fx_skip fr (fr.unwant rfl rfl rfl (by decide)) rfl (by first | decide | simp) ?_
  clear fr a; intro a fr
  refine fx_skip fr (fr.unwant rfl rfl rfl (by decide)) rfl (by first | decide | simp) ?_
  clear fr a; intro a fr
  refine fx_val (v := .bool false) fr rfl rfl (by first | decide | simp) (x_pick_f rfl (fr.ev rfl) rfl) ?_
  clear fr a; intro a fr
  refine fx_val (v := .bool false) fr rfl rfl (by first | decide | simp) (x_assign rfl (fr.ev rfl)) ?_
  clear fr a; intro a fr
  refine wpList_nil ?_
  refine fx_next ?_
  refine wp_ret ?_
  refine fx_rt ?_
  refine fx_ret fr [.tmp 4] [.bool false] rfl ⟨rfl, trivial⟩ rfl ?_
  exact ⟨_, rfl, rfl, rfl⟩
set_option maxRecDepth 100000 in
set_option maxHeartbeats 4000000 in
theorem same_xx {w : World} {Fp : Nat → Prop} {b n : Nat} {ways : Int} {L : List Ln} (H : LinesAt w Fp b n ways L) {Fp2 : Nat → Prop} {b2 n2 : Nat} {ways2 : Int} {L2 : List Ln} (H2 : LinesAt w Fp2 b2 n2 ways2 L2) : Calls Try.prog 27 #[.pointer (some ⟨b, 0, none⟩), .pointer (some ⟨b2, 0, none⟩)] w (Ret fun v w' => v = .bool (decide (ways = ways2) && decide (n = n2 ∧ allL n L = allL n2 L2)) ∧ New w w') := by
  obtain ⟨S, FpR, rs, hB, hS, hR, hP⟩ := H
  have hlen := hP.len
  obtain ⟨hn1, hn2, hw1, hw2⟩ := hP.bd
  obtain ⟨S2, FpQ, qs, hB2, hS2, hR2, hP2⟩ := H2
  have hlen2 := hP2.len
  obtain ⟨hm1, hm2, hv1, hv2⟩ := hP2.bd
  have hF := Only.refl (fun _ => False) w
  refine fx_enter Try.func27 rfl (N := (37, [])) (T := [(0, .pointer (some ⟨b, 0, none⟩)), (1, .pointer (some ⟨b2, 0, none⟩))]) rfl (show 2 ≤ 37 by decide) ⟨rfl, rfl, trivial⟩ fun a fr => ?_
  refine wp_seq ?_
  refine wp_region_lit ?_  -- region 0
  refine fx_val (v := .bool false) fr rfl rfl (by first | decide | simp) (x_assign rfl rfl) ?_
  clear fr a; intro a fr
  refine wpList_nil ?_
  refine fx_next ?_
  refine wp_seq ?_
  refine wp_seq ?_
  refine wp_region_lit ?_  -- region 1
  refine fx_val (v := .pointer (some ⟨b, 0, none⟩)) fr rfl rfl (by first | decide | simp) (x_move rfl (fr.ev rfl)) ?_
  clear fr a; intro a fr
  refine fx_call fr rfl rfl (by first | decide | simp) (x_call (vs := [.pointer (some ⟨b, 0, none⟩)]) rfl rfl ⟨(fr.ev rfl), trivial⟩ Try.func31 nm31 rfl) (none_some hB (by omega)) ?_
  clear fr a
  rintro v w9 ⟨rfl, hw9⟩ a fr
  obtain rfl := hw9.symm
  refine fx_val (v := .bool false) fr rfl rfl (by first | decide | simp) (x_move rfl (fr.ev rfl)) ?_
  clear fr a; intro a fr
  refine fx_val (v := .pointer (some ⟨b2, 0, none⟩)) fr (fr.want rfl rfl rfl) rfl (by first | decide | simp) (x_move rfl (fr.ev rfl)) ?_
  clear fr a; intro a fr
  refine fx_call fr (fr.want rfl rfl rfl) rfl (by first | decide | simp) (x_call (vs := [.pointer (some ⟨b2, 0, none⟩)]) rfl rfl ⟨(fr.ev rfl), trivial⟩ Try.func31 nm31 rfl) (none_some hB2 (by omega)) ?_
  clear fr a
  rintro v w9 ⟨rfl, hw9⟩ a fr
  obtain rfl := hw9.symm
  refine fx_val (v := .bool false) fr rfl rfl (by first | decide | simp) (x_pick_f rfl (fr.ev rfl) (fr.ev rfl)) ?_
  clear fr a; intro a fr
  refine wpList_nil ?_
  refine fx_next ?_
  refine fx_cond_f fr rfl ?_
  refine wp_skip ?_
  refine fx_next ?_
  refine wp_seq ?_
  rcases Decidable.em (ways = ways2) with hq | hq
  · skip
    refine fx_heldT (n := 20) (k := 20) (fun w => Blk w b 74 #[.slice (some ⟨S, 0, none⟩) n n, .int .i64 ways] ∧ Blk w S 26 (rowsArr rs) ∧ RowsAt w FpR rs ∧ Blk w b2 74 #[.slice (some ⟨S2, 0, none⟩) n2 n2, .int .i64 ways2] ∧ Blk w S2 26 (rowsArr qs) ∧ RowsAt w FpQ qs ∧ True) (by kernel_rfl) (by kernel_rfl) rfl ?_  -- region 3
    intro w5 hN6
    replace hB := hB.new hN6
    replace hS := hS.new hN6
    replace hR := hR.new hN6
    replace hB2 := hB2.new hN6
    replace hS2 := hS2.new hN6
    replace hR2 := hR2.new hN6
    replace hF := hF.trNew hN6
    refine fx_take (i := 0) (v := .pointer (some ⟨b, 0, none⟩)) fr rfl (by kernel_rfl) rfl rfl (by first | decide | simp) (fun _ _ _ h => h) (fun _ ⟨hB, hS, hR, hB2, hS2, hR2, _⟩ => x_move rfl (fr.ev rfl)) ⟨hB, hS, hR, hB2, hS2, hR2, trivial⟩ ?_
    clear fr a; intro a fr
    refine fx_take (i := 1) (v := .pointer (some ⟨b, 0, none⟩)) fr rfl (by kernel_rfl) rfl rfl (by first | decide | simp) (fun _ _ _ h => h) (fun _ ⟨hB, hS, hR, hB2, hS2, hR2, _⟩ => x_nilCheck rfl (fr.ev rfl)) ⟨hB, hS, hR, hB2, hS2, hR2, trivial⟩ ?_
    clear fr a; intro a fr
    refine fx_take (i := 2) (v := .pointer (some ⟨b, 1, none⟩)) fr rfl (by kernel_rfl) rfl rfl (by first | decide | simp) (fun _ _ _ h => h) (fun _ ⟨hB, hS, hR, hB2, hS2, hR2, _⟩ => x_fieldAddr fo74_1 rfl (fr.ev rfl) rfl) ⟨hB, hS, hR, hB2, hS2, hR2, trivial⟩ ?_
    clear fr a; intro a fr
    refine fx_take (i := 3) (v := .int .i64 ways) fr rfl (by kernel_rfl) rfl rfl (by first | decide | simp) (fun _ _ _ h => h) (fun _ ⟨hB, hS, hR, hB2, hS2, hR2, _⟩ => x_load1 pl3 rfl (fr.ev rfl) (hB.cell 1 rfl)) ⟨hB, hS, hR, hB2, hS2, hR2, trivial⟩ ?_
    clear fr a; intro a fr
    refine fx_take (i := 4) (v := .pointer (some ⟨b2, 0, none⟩)) fr rfl (by kernel_rfl) rfl rfl (by first | decide | simp) (fun _ _ _ h => h) (fun _ ⟨hB, hS, hR, hB2, hS2, hR2, _⟩ => x_move rfl (fr.ev rfl)) ⟨hB, hS, hR, hB2, hS2, hR2, trivial⟩ ?_
    clear fr a; intro a fr
    refine fx_take (i := 5) (v := .pointer (some ⟨b2, 0, none⟩)) fr rfl (by kernel_rfl) rfl rfl (by first | decide | simp) (fun _ _ _ h => h) (fun _ ⟨hB, hS, hR, hB2, hS2, hR2, _⟩ => x_nilCheck rfl (fr.ev rfl)) ⟨hB, hS, hR, hB2, hS2, hR2, trivial⟩ ?_
    clear fr a; intro a fr
    refine fx_take (i := 6) (v := .pointer (some ⟨b2, 1, none⟩)) fr rfl (by kernel_rfl) rfl rfl (by first | decide | simp) (fun _ _ _ h => h) (fun _ ⟨hB, hS, hR, hB2, hS2, hR2, _⟩ => x_fieldAddr fo74_1 rfl (fr.ev rfl) rfl) ⟨hB, hS, hR, hB2, hS2, hR2, trivial⟩ ?_
    clear fr a; intro a fr
    refine fx_take (i := 7) (v := .int .i64 ways2) fr rfl (by kernel_rfl) rfl rfl (by first | decide | simp) (fun _ _ _ h => h) (fun _ ⟨hB, hS, hR, hB2, hS2, hR2, _⟩ => x_load1 pl3 rfl (fr.ev rfl) (hB2.cell 1 rfl)) ⟨hB, hS, hR, hB2, hS2, hR2, trivial⟩ ?_
    clear fr a; intro a fr
    refine fx_take (i := 8) (v := .bool true) fr rfl (by kernel_rfl) rfl rfl (by first | decide | simp) (fun _ _ _ h => h) (fun _ ⟨hB, hS, hR, hB2, hS2, hR2, _⟩ => x_eql rfl (fr.ev rfl) (fr.ev rfl) (decide_eq_true hq)) ⟨hB, hS, hR, hB2, hS2, hR2, trivial⟩ ?_
    clear fr a; intro a fr
    refine fx_take (i := 9) (v := .bool true) fr rfl (by kernel_rfl) rfl rfl (by first | decide | simp) (fun _ _ _ h => h) (fun _ ⟨hB, hS, hR, hB2, hS2, hR2, _⟩ => x_move rfl (fr.ev rfl)) ⟨hB, hS, hR, hB2, hS2, hR2, trivial⟩ ?_
    clear fr a; intro a fr
    refine fx_take (i := 10) (v := .pointer (some ⟨b, 0, none⟩)) fr rfl (by kernel_rfl) (fr.want rfl rfl rfl) rfl (by first | decide | simp) (fun _ _ _ h => h) (fun _ ⟨hB, hS, hR, hB2, hS2, hR2, _⟩ => x_move rfl (fr.ev rfl)) ⟨hB, hS, hR, hB2, hS2, hR2, trivial⟩ ?_
    clear fr a; intro a fr
    refine fx_take (i := 11) (v := .pointer (some ⟨b, 0, none⟩)) fr rfl (by kernel_rfl) (fr.want rfl rfl rfl) rfl (by first | decide | simp) (fun _ _ _ h => h) (fun _ ⟨hB, hS, hR, hB2, hS2, hR2, _⟩ => x_nilCheck rfl (fr.ev rfl)) ⟨hB, hS, hR, hB2, hS2, hR2, trivial⟩ ?_
    clear fr a; intro a fr
    refine fx_take (i := 12) (v := .pointer (some ⟨b, 0, none⟩)) fr rfl (by kernel_rfl) (fr.want rfl rfl rfl) rfl (by first | decide | simp) (fun _ _ _ h => h) (fun _ ⟨hB, hS, hR, hB2, hS2, hR2, _⟩ => x_fieldAddr fo74_0 rfl (fr.ev rfl) rfl) ⟨hB, hS, hR, hB2, hS2, hR2, trivial⟩ ?_
    clear fr a; intro a fr
    refine fx_take (i := 13) (v := .slice (some ⟨S, 0, none⟩) n n) fr rfl (by kernel_rfl) (fr.want rfl rfl rfl) rfl (by first | decide | simp) (fun _ _ _ h => h) (fun _ ⟨hB, hS, hR, hB2, hS2, hR2, _⟩ => x_load1 pl72 rfl (fr.ev rfl) (hB.cell 0 rfl)) ⟨hB, hS, hR, hB2, hS2, hR2, trivial⟩ ?_
    clear fr a; intro a fr
    refine fx_take (i := 14) (v := .pointer (some ⟨b2, 0, none⟩)) fr rfl (by kernel_rfl) (fr.want rfl rfl rfl) rfl (by first | decide | simp) (fun _ _ _ h => h) (fun _ ⟨hB, hS, hR, hB2, hS2, hR2, _⟩ => x_move rfl (fr.ev rfl)) ⟨hB, hS, hR, hB2, hS2, hR2, trivial⟩ ?_
    clear fr a; intro a fr
    refine fx_take (i := 15) (v := .pointer (some ⟨b2, 0, none⟩)) fr rfl (by kernel_rfl) (fr.want rfl rfl rfl) rfl (by first | decide | simp) (fun _ _ _ h => h) (fun _ ⟨hB, hS, hR, hB2, hS2, hR2, _⟩ => x_nilCheck rfl (fr.ev rfl)) ⟨hB, hS, hR, hB2, hS2, hR2, trivial⟩ ?_
    clear fr a; intro a fr
    refine fx_take (i := 16) (v := .pointer (some ⟨b2, 0, none⟩)) fr rfl (by kernel_rfl) (fr.want rfl rfl rfl) rfl (by first | decide | simp) (fun _ _ _ h => h) (fun _ ⟨hB, hS, hR, hB2, hS2, hR2, _⟩ => x_fieldAddr fo74_0 rfl (fr.ev rfl) rfl) ⟨hB, hS, hR, hB2, hS2, hR2, trivial⟩ ?_
    clear fr a; intro a fr
    refine fx_take (i := 17) (v := .slice (some ⟨S2, 0, none⟩) n2 n2) fr rfl (by kernel_rfl) (fr.want rfl rfl rfl) rfl (by first | decide | simp) (fun _ _ _ h => h) (fun _ ⟨hB, hS, hR, hB2, hS2, hR2, _⟩ => x_load1 pl72 rfl (fr.ev rfl) (hB2.cell 0 rfl)) ⟨hB, hS, hR, hB2, hS2, hR2, trivial⟩ ?_
    clear fr a; intro a fr
    refine fx_one (i := 18) (by kernel_rfl) (fx_op rfl ?_)
    refine fx_call fr (fr.want rfl rfl rfl) rfl (by first | decide | simp) (x_call (vs := [.slice (some ⟨S, 0, none⟩) n n, .slice (some ⟨S2, 0, none⟩) n2 n2, .func (.func 39) #[] #[]]) rfl rfl ⟨(fr.ev rfl), (fr.ev rfl), rfl, trivial⟩ Try.func38 nm38 rfl) (equalf_c hS hR hS2 hR2 hlen hlen2 (by omega)) ?_
    clear fr a
    rintro v w7 ⟨bb, rfl, hbb, hN8⟩ a fr
    replace hB := hB.new hN8
    replace hS := hS.new hN8
    replace hR := hR.new hN8
    replace hB2 := hB2.new hN8
    replace hS2 := hS2.new hN8
    replace hR2 := hR2.new hN8
    replace hF := hF.trNew hN8
    have hbe : bb = decide (n = n2 ∧ allL n L = allL n2 L2) := by
      rw [Bool.eq_iff_iff, hbb, decide_eq_true_eq]
      constructor
      · rintro ⟨rfl, h9⟩; exact ⟨rfl, allL_iff.1 fun i hi => by have h8 := h9 i hi; rw [hP.row i hi, hP2.row i hi] at h8; exact h8⟩
      · rintro ⟨rfl, h9⟩; exact ⟨rfl, fun i hi => by rw [hP.row i hi, hP2.row i hi]; exact allL_iff.2 h9 i hi⟩
    rw [hbe] at fr
    refine wpList_nil ?_
    refine ⟨⟨hB, hS, hR, hB2, hS2, hR2, trivial⟩, ?_⟩
    refine fx_take (i := 19) (v := .bool (decide (n = n2 ∧ allL n L = allL n2 L2))) fr rfl (by kernel_rfl) rfl rfl (by first | decide | simp) (fun _ _ _ h => h) (fun _ ⟨hB, hS, hR, hB2, hS2, hR2, _⟩ => x_pick_t rfl (fr.ev rfl) (fr.ev rfl)) ⟨hB, hS, hR, hB2, hS2, hR2, trivial⟩ ?_
    clear fr a; intro a fr
    refine fx_hdone (by kernel_rfl) ?_
    refine fx_tail ?_
    refine fx_val (v := .bool (decide (n = n2 ∧ allL n L = allL n2 L2))) fr rfl rfl (by first | decide | simp) (x_assign rfl (fr.ev rfl)) ?_
    clear fr a; intro a fr
    refine wpList_nil ?_
    refine fx_next ?_
    refine wp_ret ?_
    refine fx_ret fr [.tmp 4] [.bool (decide (n = n2 ∧ allL n L = allL n2 L2))] rfl ⟨rfl, trivial⟩ rfl ?_
    exact ⟨_, rfl, congrArg Value.bool (by simp [hq]), hF⟩
  · skip
    refine fx_heldT (n := 20) (k := 20) (fun w => Blk w b 74 #[.slice (some ⟨S, 0, none⟩) n n, .int .i64 ways] ∧ Blk w S 26 (rowsArr rs) ∧ RowsAt w FpR rs ∧ Blk w b2 74 #[.slice (some ⟨S2, 0, none⟩) n2 n2, .int .i64 ways2] ∧ Blk w S2 26 (rowsArr qs) ∧ RowsAt w FpQ qs ∧ True) (by kernel_rfl) (by kernel_rfl) rfl ?_  -- region 3
    intro w9 hN10
    replace hB := hB.new hN10
    replace hS := hS.new hN10
    replace hR := hR.new hN10
    replace hB2 := hB2.new hN10
    replace hS2 := hS2.new hN10
    replace hR2 := hR2.new hN10
    replace hF := hF.trNew hN10
    refine fx_take (i := 0) (v := .pointer (some ⟨b, 0, none⟩)) fr rfl (by kernel_rfl) rfl rfl (by first | decide | simp) (fun _ _ _ h => h) (fun _ ⟨hB, hS, hR, hB2, hS2, hR2, _⟩ => x_move rfl (fr.ev rfl)) ⟨hB, hS, hR, hB2, hS2, hR2, trivial⟩ ?_
    clear fr a; intro a fr
    refine fx_take (i := 1) (v := .pointer (some ⟨b, 0, none⟩)) fr rfl (by kernel_rfl) rfl rfl (by first | decide | simp) (fun _ _ _ h => h) (fun _ ⟨hB, hS, hR, hB2, hS2, hR2, _⟩ => x_nilCheck rfl (fr.ev rfl)) ⟨hB, hS, hR, hB2, hS2, hR2, trivial⟩ ?_
    clear fr a; intro a fr
    refine fx_take (i := 2) (v := .pointer (some ⟨b, 1, none⟩)) fr rfl (by kernel_rfl) rfl rfl (by first | decide | simp) (fun _ _ _ h => h) (fun _ ⟨hB, hS, hR, hB2, hS2, hR2, _⟩ => x_fieldAddr fo74_1 rfl (fr.ev rfl) rfl) ⟨hB, hS, hR, hB2, hS2, hR2, trivial⟩ ?_
    clear fr a; intro a fr
    refine fx_take (i := 3) (v := .int .i64 ways) fr rfl (by kernel_rfl) rfl rfl (by first | decide | simp) (fun _ _ _ h => h) (fun _ ⟨hB, hS, hR, hB2, hS2, hR2, _⟩ => x_load1 pl3 rfl (fr.ev rfl) (hB.cell 1 rfl)) ⟨hB, hS, hR, hB2, hS2, hR2, trivial⟩ ?_
    clear fr a; intro a fr
    refine fx_take (i := 4) (v := .pointer (some ⟨b2, 0, none⟩)) fr rfl (by kernel_rfl) rfl rfl (by first | decide | simp) (fun _ _ _ h => h) (fun _ ⟨hB, hS, hR, hB2, hS2, hR2, _⟩ => x_move rfl (fr.ev rfl)) ⟨hB, hS, hR, hB2, hS2, hR2, trivial⟩ ?_
    clear fr a; intro a fr
    refine fx_take (i := 5) (v := .pointer (some ⟨b2, 0, none⟩)) fr rfl (by kernel_rfl) rfl rfl (by first | decide | simp) (fun _ _ _ h => h) (fun _ ⟨hB, hS, hR, hB2, hS2, hR2, _⟩ => x_nilCheck rfl (fr.ev rfl)) ⟨hB, hS, hR, hB2, hS2, hR2, trivial⟩ ?_
    clear fr a; intro a fr
    refine fx_take (i := 6) (v := .pointer (some ⟨b2, 1, none⟩)) fr rfl (by kernel_rfl) rfl rfl (by first | decide | simp) (fun _ _ _ h => h) (fun _ ⟨hB, hS, hR, hB2, hS2, hR2, _⟩ => x_fieldAddr fo74_1 rfl (fr.ev rfl) rfl) ⟨hB, hS, hR, hB2, hS2, hR2, trivial⟩ ?_
    clear fr a; intro a fr
    refine fx_take (i := 7) (v := .int .i64 ways2) fr rfl (by kernel_rfl) rfl rfl (by first | decide | simp) (fun _ _ _ h => h) (fun _ ⟨hB, hS, hR, hB2, hS2, hR2, _⟩ => x_load1 pl3 rfl (fr.ev rfl) (hB2.cell 1 rfl)) ⟨hB, hS, hR, hB2, hS2, hR2, trivial⟩ ?_
    clear fr a; intro a fr
    refine fx_take (i := 8) (v := .bool false) fr rfl (by kernel_rfl) rfl rfl (by first | decide | simp) (fun _ _ _ h => h) (fun _ ⟨hB, hS, hR, hB2, hS2, hR2, _⟩ => x_eql rfl (fr.ev rfl) (fr.ev rfl) (decide_eq_false hq)) ⟨hB, hS, hR, hB2, hS2, hR2, trivial⟩ ?_
    clear fr a; intro a fr
    refine fx_take (i := 9) (v := .bool false) fr rfl (by kernel_rfl) rfl rfl (by first | decide | simp) (fun _ _ _ h => h) (fun _ ⟨hB, hS, hR, hB2, hS2, hR2, _⟩ => x_move rfl (fr.ev rfl)) ⟨hB, hS, hR, hB2, hS2, hR2, trivial⟩ ?_
    clear fr a; intro a fr
    refine fx_takeskip (i := 10) fr rfl (by kernel_rfl) (fr.unwant rfl rfl rfl (by decide)) rfl (by first | decide | simp) (fun _ _ _ h => h) ⟨hB, hS, hR, hB2, hS2, hR2, trivial⟩ ?_
    clear fr a; intro a fr
    refine fx_takeskip (i := 11) fr rfl (by kernel_rfl) (fr.unwant rfl rfl rfl (by decide)) rfl (by first | decide | simp) (fun _ _ _ h => h) ⟨hB, hS, hR, hB2, hS2, hR2, trivial⟩ ?_
    clear fr a; intro a fr
    refine fx_takeskip (i := 12) fr rfl (by kernel_rfl) (fr.unwant rfl rfl rfl (by decide)) rfl (by first | decide | simp) (fun _ _ _ h => h) ⟨hB, hS, hR, hB2, hS2, hR2, trivial⟩ ?_
    clear fr a; intro a fr
    refine fx_takeskip (i := 13) fr rfl (by kernel_rfl) (fr.unwant rfl rfl rfl (by decide)) rfl (by first | decide | simp) (fun _ _ _ h => h) ⟨hB, hS, hR, hB2, hS2, hR2, trivial⟩ ?_
    clear fr a; intro a fr
    refine fx_takeskip (i := 14) fr rfl (by kernel_rfl) (fr.unwant rfl rfl rfl (by decide)) rfl (by first | decide | simp) (fun _ _ _ h => h) ⟨hB, hS, hR, hB2, hS2, hR2, trivial⟩ ?_
    clear fr a; intro a fr
    refine fx_takeskip (i := 15) fr rfl (by kernel_rfl) (fr.unwant rfl rfl rfl (by decide)) rfl (by first | decide | simp) (fun _ _ _ h => h) ⟨hB, hS, hR, hB2, hS2, hR2, trivial⟩ ?_
    clear fr a; intro a fr
    refine fx_takeskip (i := 16) fr rfl (by kernel_rfl) (fr.unwant rfl rfl rfl (by decide)) rfl (by first | decide | simp) (fun _ _ _ h => h) ⟨hB, hS, hR, hB2, hS2, hR2, trivial⟩ ?_
    clear fr a; intro a fr
    refine fx_takeskip (i := 17) fr rfl (by kernel_rfl) (fr.unwant rfl rfl rfl (by decide)) rfl (by first | decide | simp) (fun _ _ _ h => h) ⟨hB, hS, hR, hB2, hS2, hR2, trivial⟩ ?_
    clear fr a; intro a fr
    refine fx_takeskip (i := 18) fr rfl (by kernel_rfl) (fr.unwant rfl rfl rfl (by decide)) rfl (by first | decide | simp) (fun _ _ _ h => h) ⟨hB, hS, hR, hB2, hS2, hR2, trivial⟩ ?_
    clear fr a; intro a fr
    refine fx_take (i := 19) (v := .bool false) fr rfl (by kernel_rfl) rfl rfl (by first | decide | simp) (fun _ _ _ h => h) (fun _ ⟨hB, hS, hR, hB2, hS2, hR2, _⟩ => x_pick_f rfl (fr.ev rfl) rfl) ⟨hB, hS, hR, hB2, hS2, hR2, trivial⟩ ?_
    clear fr a; intro a fr
    refine fx_hdone (by kernel_rfl) ?_
    refine fx_tail ?_
    refine fx_val (v := .bool false) fr rfl rfl (by first | decide | simp) (x_assign rfl (fr.ev rfl)) ?_
    clear fr a; intro a fr
    refine wpList_nil ?_
    refine fx_next ?_
    refine wp_ret ?_
    refine fx_ret fr [.tmp 4] [.bool false] rfl ⟨rfl, trivial⟩ rfl ?_
    exact ⟨_, rfl, congrArg Value.bool (by simp [hq]), hF⟩
end Go.Proofs.Ytdjgfkjcpalihaa
