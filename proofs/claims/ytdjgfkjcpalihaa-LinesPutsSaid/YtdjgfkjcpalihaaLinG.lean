/-
  The document's lines. Printed by gen_g.py.
-/
import Derived.Test.YtdjgfkjcpalihaaLinF
namespace Go.Proofs.Ytdjgfkjcpalihaa
open Go.RowKit

set_option maxRecDepth 100000 in
set_option maxHeartbeats 4000000 in
theorem rset_c (number : Int) (hnum : 0 ≤ number ∧ number < 4294967296) {n m cap : Nat} {A : Option Addr} {ways : Int} (hn : 0 < n) (w : World) : Calls Try.prog 34 #[.agg (#[.int .i64 ((n : Nat) : Int), .int .i64 ways, .slice A m cap]), .int .u32 number] w (Ret fun v w' => v = .int .i64 ((si n number : Nat) : Int) ∧ New w w') := by
  have hF := Only.refl (fun _ => False) w
  refine fx_enter Try.func34 rfl (N := (10, [])) (T := [(0, .agg (#[.int .i64 ((n : Nat) : Int), .int .i64 ways, .slice A m cap])), (1, .int .u32 number)]) rfl (show 2 ≤ 10 by decide) ⟨rfl, rfl, trivial⟩ fun a fr => ?_
  refine wp_seq ?_
  refine wp_region_lit ?_  -- region 0
  refine fx_new fr rfl rfl (by first | decide | simp) (x_box (cs := #[.int .i64 ((n : Nat) : Int), .int .i64 ways, .slice A m cap]) rfl (fr.ev rfl) rfl) ?_
  clear fr a
  intro b1 w2 hN3 B4 hb5 a fr
  have g_b1 := Nat.le_trans hF.size hb5
  replace hF := hF.trNew hN3
  refine fx_val (v := .int .i64 0) fr rfl rfl (by first | decide | simp) (x_assign rfl rfl) ?_
  clear fr a; intro a fr
  refine wpList_nil ?_
  refine fx_next ?_
  refine wp_seq ?_
  refine wp_region_lit ?_  -- region 1
  refine fx_val (v := .int .u32 number) fr rfl rfl (by first | decide | simp) (x_move rfl (fr.ev rfl)) ?_
  clear fr a; intro a fr
  refine fx_val (v := .int .i64 number) fr rfl rfl (by first | decide | simp) (x_convert Try.underlying33 Try.underlying2 rfl (fr.ev rfl) (i64w (r := number) rfl (by omega))) ?_
  clear fr a; intro a fr
  refine fx_val (v := .pointer (some ⟨b1, 0, none⟩)) fr rfl rfl (by first | decide | simp) (x_fieldAddr fo28_0 rfl (fr.ev rfl) rfl) ?_
  clear fr a; intro a fr
  refine fx_val (v := .int .i64 ((n : Nat) : Int)) fr rfl rfl (by first | decide | simp) (x_load1 pl3 rfl (fr.ev rfl) (B4.cell 0 rfl)) ?_
  clear fr a; intro a fr
  refine fx_val (v := .int .i64 ((si n number : Nat) : Int)) fr rfl rfl (by first | decide | simp) (x_rem rfl (fr.ev rfl) (fr.ev rfl) (by omega) (tmod_si (by omega) (by omega))) ?_
  clear fr a; intro a fr
  refine fx_val (v := .int .i64 ((si n number : Nat) : Int)) fr rfl rfl (by first | decide | simp) (x_assign rfl (fr.ev rfl)) ?_
  clear fr a; intro a fr
  refine wpList_nil ?_
  refine fx_next ?_
  refine wp_ret ?_
  refine fx_ret fr [.tmp 4] [.int .i64 ((si n number : Nat) : Int)] rfl ⟨rfl, trivial⟩ rfl ?_
  exact ⟨_, rfl, rfl, hF⟩
set_option maxRecDepth 100000 in
set_option maxHeartbeats 4000000 in
theorem choice_c (pick : Int) {n : Nat} (hn : 0 < n) (hn2 : n ≤ 1000000) (w : World) : Calls Try.prog 35 #[.int .i64 pick, .int .i64 ((n : Nat) : Int)] w (Ret fun v w' => v = .int .i64 ((pickAt pick n : Nat) : Int) ∧ w' = w) := by
  refine fx_enter Try.func35 rfl (N := (15, [])) (T := [(0, .int .i64 pick), (1, .int .i64 ((n : Nat) : Int))]) rfl (show 2 ≤ 15 by decide) ⟨rfl, rfl, trivial⟩ fun a fr => ?_
  refine wp_seq ?_
  refine wp_region_lit ?_  -- region 0
  refine fx_val (v := .int .i64 0) fr rfl rfl (by first | decide | simp) (x_assign rfl rfl) ?_
  clear fr a; intro a fr
  refine wpList_nil ?_
  refine fx_next ?_
  refine wp_seq ?_
  refine wp_region_lit ?_  -- region 1
  refine fx_val (v := .int .i64 pick) fr rfl rfl (by first | decide | simp) (x_move rfl (fr.ev rfl)) ?_
  clear fr a; intro a fr
  refine fx_val (v := .int .i64 ((n : Nat) : Int)) fr rfl rfl (by first | decide | simp) (x_move rfl (fr.ev rfl)) ?_
  clear fr a; intro a fr
  refine fx_val (v := .int .i64 (Int.tmod pick ((n : Nat) : Int))) fr rfl rfl (by first | decide | simp) (x_rem rfl (fr.ev rfl) (fr.ev rfl) (by omega) rfl) ?_
  clear fr a; intro a fr
  refine fx_val (v := .int .i64 (Int.tmod pick ((n : Nat) : Int))) fr rfl rfl (by first | decide | simp) (x_assign rfl (fr.ev rfl)) ?_
  clear fr a; intro a fr
  refine wpList_nil ?_
  refine fx_next ?_
  refine wp_seq ?_
  refine wp_seq ?_
  have hb := tmod_bd pick n hn
  refine wp_region_lit ?_  -- region 2
  refine fx_val (v := .int .i64 (Int.tmod pick ((n : Nat) : Int))) fr rfl rfl (by first | decide | simp) (x_move rfl (fr.ev rfl)) ?_
  clear fr a; intro a fr
  refine fx_val (v := .bool (decide (Int.tmod pick ((n : Nat) : Int) < 0))) fr rfl rfl (by first | decide | simp) (x_lss rfl (fr.ev rfl) rfl rfl) ?_
  clear fr a; intro a fr
  refine wpList_nil ?_
  refine fx_next ?_
  refine fx_cond fr rfl (fun hc1 => ?_) (fun hc1 => ?_)
  · skip
    have hc1 := of_decide_eq_true hc1
    refine wp_region_lit ?_  -- region 3
    refine fx_val (v := .int .i64 (Int.tmod pick ((n : Nat) : Int))) fr rfl rfl (by first | decide | simp) (x_move rfl (fr.ev rfl)) ?_
    clear fr a; intro a fr
    refine fx_val (v := .int .i64 ((n : Nat) : Int)) fr rfl rfl (by first | decide | simp) (x_move rfl (fr.ev rfl)) ?_
    clear fr a; intro a fr
    refine fx_val (v := .int .i64 (Int.tmod pick ((n : Nat) : Int) + ((n : Nat) : Int))) fr rfl rfl (by first | decide | simp) (x_add rfl (fr.ev rfl) (fr.ev rfl) (i64w (r := Int.tmod pick ((n : Nat) : Int) + ((n : Nat) : Int)) (by omega) (by omega))) ?_
    clear fr a; intro a fr
    refine fx_val (v := .int .i64 (Int.tmod pick ((n : Nat) : Int) + ((n : Nat) : Int))) fr rfl rfl (by first | decide | simp) (x_assign rfl (fr.ev rfl)) ?_
    clear fr a; intro a fr
    refine wpList_nil ?_
    refine fx_next ?_
    refine wp_seq ?_
    refine wp_region_lit ?_  -- region 4
    refine fx_val (v := .int .i64 (Int.tmod pick ((n : Nat) : Int) + ((n : Nat) : Int))) fr rfl rfl (by first | decide | simp) (x_move rfl (fr.ev rfl)) ?_
    clear fr a; intro a fr
    refine fx_val (v := .int .i64 (Int.tmod pick ((n : Nat) : Int) + ((n : Nat) : Int))) fr rfl rfl (by first | decide | simp) (x_assign rfl (fr.ev rfl)) ?_
    clear fr a; intro a fr
    refine wpList_nil ?_
    refine fx_next ?_
    refine wp_ret ?_
    refine fx_ret fr [.tmp 4] [.int .i64 (Int.tmod pick ((n : Nat) : Int) + ((n : Nat) : Int))] rfl ⟨rfl, trivial⟩ rfl ?_
    rw [← pick_neg hn hc1]
    exact ⟨_, rfl, rfl, rfl⟩
  · skip
    have hc1 := of_decide_eq_false hc1
    refine wp_skip ?_
    refine fx_next ?_
    refine wp_seq ?_
    refine wp_region_lit ?_  -- region 4
    refine fx_val (v := .int .i64 (Int.tmod pick ((n : Nat) : Int))) fr rfl rfl (by first | decide | simp) (x_move rfl (fr.ev rfl)) ?_
    clear fr a; intro a fr
    refine fx_val (v := .int .i64 (Int.tmod pick ((n : Nat) : Int))) fr rfl rfl (by first | decide | simp) (x_assign rfl (fr.ev rfl)) ?_
    clear fr a; intro a fr
    refine wpList_nil ?_
    refine fx_next ?_
    refine wp_ret ?_
    refine fx_ret fr [.tmp 4] [.int .i64 (Int.tmod pick ((n : Nat) : Int))] rfl ⟨rfl, trivial⟩ rfl ?_
    rw [← pick_pos hn hc1]
    exact ⟨_, rfl, rfl, rfl⟩
set_option maxRecDepth 100000 in
set_option maxHeartbeats 4000000 in
theorem right_c (sets ways : Int) (w : World) : Calls Try.prog 10 #[.int .i64 sets, .int .i64 ways] w (Ret fun v w' => v = .bool (rightB sets ways) ∧ New w w') := by
  have hF := Only.refl (fun _ => False) w
  refine fx_enter Try.func10 rfl (N := (19, [])) (T := [(0, .int .i64 sets), (1, .int .i64 ways)]) rfl (show 2 ≤ 19 by decide) ⟨rfl, rfl, trivial⟩ fun a fr => ?_
  refine wp_seq ?_
  refine wp_region_lit ?_  -- region 0
  refine fx_val (v := .bool false) fr rfl rfl (by first | decide | simp) (x_assign rfl rfl) ?_
  clear fr a; intro a fr
  refine wpList_nil ?_
  refine fx_next ?_
  refine wp_seq ?_
  refine wp_seq ?_
  refine wp_region_lit ?_  -- region 1
  refine fx_val (v := .int .i64 1) fr rfl rfl (by first | decide | simp) (x_assign rfl rfl) ?_
  clear fr a; intro a fr
  refine wpList_nil ?_
  refine fx_next ?_
  refine wp_block ?_
  refine fx_loop (fun nM a wL => ∃ k : Int, nM = (256 - k).toNat ∧ Fr (19, []) [(0, .int .i64 sets), (1, .int .i64 ways), (5, .int .i64 k)] a ∧ Only (fun _ => False) w wL ∧ (k = 1 ∨ k = 2 ∧ ¬ sets = 1 ∨ k = 4 ∧ ¬ sets = 1 ∧ ¬ sets = 2 ∨ k = 8 ∧ ¬ sets = 1 ∧ ¬ sets = 2 ∧ ¬ sets = 4 ∨ k = 16 ∧ ¬ sets = 1 ∧ ¬ sets = 2 ∧ ¬ sets = 4 ∧ ¬ sets = 8 ∨ k = 32 ∧ ¬ sets = 1 ∧ ¬ sets = 2 ∧ ¬ sets = 4 ∧ ¬ sets = 8 ∧ ¬ sets = 16 ∨ k = 64 ∧ ¬ sets = 1 ∧ ¬ sets = 2 ∧ ¬ sets = 4 ∧ ¬ sets = 8 ∧ ¬ sets = 16 ∧ ¬ sets = 32 ∨ k = 128 ∧ ¬ sets = 1 ∧ ¬ sets = 2 ∧ ¬ sets = 4 ∧ ¬ sets = 8 ∧ ¬ sets = 16 ∧ ¬ sets = 32 ∧ ¬ sets = 64)) (n0 := _) ⟨1, rfl, fr.sub ⟨rfl, rfl, rfl, trivial⟩, hF, by omega⟩ ?_
  rintro n2 a w1 ⟨k, rfl, fr, hF, hk⟩
  refine wp_seq ?_
  refine wp_seq ?_
  refine wp_region_lit ?_  -- region 2
  refine fx_val (v := .int .i64 k) fr rfl rfl (by first | decide | simp) (x_move rfl (fr.ev rfl)) ?_
  clear fr a; intro a fr
  refine fx_val (v := .bool (decide (k ≤ 64))) fr rfl rfl (by first | decide | simp) (x_leq rfl (fr.ev rfl) rfl rfl) ?_
  clear fr a; intro a fr
  refine wpList_nil ?_
  refine fx_next ?_
  refine fx_cond fr rfl (fun hc3 => ?_) (fun hc3 => ?_)
  · skip
    have hc3 := of_decide_eq_true hc3
    refine wp_skip ?_
    refine fx_next ?_
    refine wp_seq ?_
    refine wp_block ?_
    refine wp_seq ?_
    refine wp_region_lit ?_  -- region 4
    refine fx_val (v := .int .i64 k) fr rfl rfl (by first | decide | simp) (x_move rfl (fr.ev rfl)) ?_
    clear fr a; intro a fr
    refine fx_val (v := .int .i64 sets) fr rfl rfl (by first | decide | simp) (x_move rfl (fr.ev rfl)) ?_
    clear fr a; intro a fr
    refine fx_val (v := .bool (decide (k = sets))) fr rfl rfl (by first | decide | simp) (x_eql rfl (fr.ev rfl) (fr.ev rfl) rfl) ?_
    clear fr a; intro a fr
    refine wpList_nil ?_
    refine fx_next ?_
    refine fx_cond fr rfl (fun hc4 => ?_) (fun hc4 => ?_)
    · skip
      have hc4 := of_decide_eq_true hc4
      refine wp_seq ?_
      refine wp_region_lit ?_  -- region 5
      refine fx_val (v := .int .i64 ways) fr rfl rfl (by first | decide | simp) (x_move rfl (fr.ev rfl)) ?_
      clear fr a; intro a fr
      refine fx_val (v := .bool (decide (1 ≤ ways))) fr rfl rfl (by first | decide | simp) (x_geq rfl (fr.ev rfl) rfl rfl) ?_
      clear fr a; intro a fr
      refine fx_val (v := .bool (decide (1 ≤ ways))) fr rfl rfl (by first | decide | simp) (x_move rfl (fr.ev rfl)) ?_
      clear fr a; intro a fr
      refine fx_may (g := (decide (1 ≤ ways))) (v := .int .i64 ways) fr rfl rfl rfl (by simp) rfl (by first | decide | simp) (fun hg => x_move rfl (fr.ev rfl)) ?_
      clear fr a; intro a fr
      refine fx_may (g := (decide (1 ≤ ways))) (v := .bool (decide (ways ≤ 8))) fr rfl rfl rfl (by simp) rfl (by first | decide | simp) (fun hg => x_leq rfl ((fr.ev rfl).trans (onlyIf_t hg)) rfl rfl) ?_
      clear fr a; intro a fr
      refine fx_val (v := .bool ((decide (1 ≤ ways)) && (decide (ways ≤ 8)))) fr rfl rfl (by first | decide | simp) (x_pick_and rfl (fr.ev rfl) (fun hb => ((fr.ev rfl)).trans (onlyIf_t (by simp_all))) (fun _ => rfl) rfl) ?_
      clear fr a; intro a fr
      refine fx_val (v := .bool ((decide (1 ≤ ways)) && (decide (ways ≤ 8)))) fr rfl rfl (by first | decide | simp) (x_assign rfl (fr.ev rfl)) ?_
      clear fr a; intro a fr
      refine wpList_nil ?_
      refine fx_next ?_
      refine wp_ret ?_
      refine fx_rb ?_
      refine fx_rt ?_
      refine fx_rt ?_
      refine fx_rb ?_
      refine fx_rt ?_
      refine fx_ret fr [.tmp 4] [.bool ((decide (1 ≤ ways)) && (decide (ways ≤ 8)))] rfl ⟨rfl, trivial⟩ rfl ?_
      have hp : pow2 sets = true := by simp only [pow2, Bool.or_eq_true, decide_eq_true_eq]; omega
      exact ⟨_, rfl, congrArg Value.bool (show _ = rightB sets ways from by unfold rightB; rw [hp]; rfl), hF⟩
    · skip
      have hc4 := of_decide_eq_false hc4
      refine wp_skip ?_
      refine fx_blk ?_
      refine fx_next ?_
      refine wp_region_lit ?_  -- region 3
      refine fx_val (v := .int .i64 k) fr rfl rfl (by first | decide | simp) (x_move rfl (fr.ev rfl)) ?_
      clear fr a; intro a fr
      refine fx_val (v := .int .i64 (k * 2)) fr rfl rfl (by first | decide | simp) (x_mul rfl (fr.ev rfl) rfl (i64w (r := k * 2) (by omega) (by omega))) ?_
      clear fr a; intro a fr
      refine fx_val (v := .int .i64 (k * 2)) fr rfl rfl (by first | decide | simp) (x_assign rfl (fr.ev rfl)) ?_
      clear fr a; intro a fr
      refine wpList_nil ?_
      refine fx_next ?_
      exact ⟨_, by omega, (k * 2), rfl, fr.sub ⟨rfl, rfl, rfl, trivial⟩, hF, by omega⟩
  · skip
    have hc3 := of_decide_eq_false hc3
    refine wp_exit ?_
    refine fx_xt ?_
    refine fx_xt ?_
    refine fx_xx ?_
    refine fx_next ?_
    refine wp_seq ?_
    refine wp_region_lit ?_  -- region 6
    refine fx_val (v := .bool false) fr rfl rfl (by first | decide | simp) (x_assign rfl rfl) ?_
    clear fr a; intro a fr
    refine wpList_nil ?_
    refine fx_next ?_
    refine wp_ret ?_
    refine fx_ret fr [.tmp 4] [.bool false] rfl ⟨rfl, trivial⟩ rfl ?_
    have hp : pow2 sets = false := by simp only [pow2, Bool.or_eq_false_iff, decide_eq_false_iff_not]; omega
    exact ⟨_, rfl, congrArg Value.bool (show false = rightB sets ways from by unfold rightB; rw [hp]; rfl), hF⟩
set_option maxRecDepth 100000 in
set_option maxHeartbeats 4000000 in
theorem rfind_c (number : Int) {w : World} {A : Option Addr} {cap n : Nat} {ways : Int} {L : List Ln} (hV : View lnE w A cap L) (hn : 0 < n ∧ n ≤ 64) : Calls Try.prog 17 #[.agg (#[.int .i64 ((n : Nat) : Int), .int .i64 ways, .slice A L.length cap]), .int .u32 number] w (Ret fun v w' => v = .int .i64 (fndI L number) ∧ New w w') := by
  have hVl := hV.len
  unfold maxLen at hVl
  have hF := Only.refl (fun _ => False) w
  refine fx_enter Try.func17 rfl (N := (22, [])) (T := [(0, .agg (#[.int .i64 ((n : Nat) : Int), .int .i64 ways, .slice A L.length cap])), (1, .int .u32 number)]) rfl (show 2 ≤ 22 by decide) ⟨rfl, rfl, trivial⟩ fun a fr => ?_
  refine wp_seq ?_
  refine wp_region_lit ?_  -- region 0
  refine fx_new fr rfl rfl (by first | decide | simp) (x_box (cs := #[.int .i64 ((n : Nat) : Int), .int .i64 ways, .slice A L.length cap]) rfl (fr.ev rfl) rfl) ?_
  clear fr a
  intro b1 w2 hN3 B4 hb5 a fr
  have ap_A_b1 : Apart A b1 := hV.apart hb5
  have g_b1 := Nat.le_trans hF.size hb5
  replace hV := hV.new hN3
  replace hF := hF.trNew hN3
  refine fx_val (v := .int .i64 0) fr rfl rfl (by first | decide | simp) (x_assign rfl rfl) ?_
  clear fr a; intro a fr
  refine wpList_nil ?_
  refine fx_next ?_
  refine wp_seq ?_
  refine wp_seq ?_
  refine wp_region_lit ?_  -- region 1
  refine fx_val (v := .int .i64 0) fr rfl rfl (by first | decide | simp) (x_assign rfl rfl) ?_
  clear fr a; intro a fr
  refine wpList_nil ?_
  refine fx_next ?_
  refine wp_block ?_
  refine fx_loop (fun nM a wL => ∃ i : Nat, nM = L.length - i ∧ Fr (22, []) [(1, .int .u32 number), (2, .pointer (some ⟨b1, 0, none⟩)), (5, .int .i64 ((i : Nat) : Int))] a ∧ Only (fun _ => False) w wL ∧ View lnE wL A cap L ∧ Blk wL b1 28 (#[.int .i64 ((n : Nat) : Int), .int .i64 ways, .slice A L.length cap]) ∧ i ≤ L.length ∧ (∀ j, j < i → ¬ (L.getD j ln0).num = number)) (n0 := _) ⟨0, rfl, fr.sub ⟨rfl, rfl, rfl, trivial⟩, hF, hV, B4, by omega, (fun j hj => absurd hj (by omega))⟩ ?_
  rintro n7 a w6 ⟨i, rfl, fr, hF, hV, B4, hi, hall⟩
  refine wp_seq ?_
  refine wp_seq ?_
  refine wp_region_lit ?_  -- region 2
  refine fx_val (v := .int .i64 ((i : Nat) : Int)) fr rfl rfl (by first | decide | simp) (x_move rfl (fr.ev rfl)) ?_
  clear fr a; intro a fr
  refine fx_val (v := .pointer (some ⟨b1, 2, none⟩)) fr rfl rfl (by first | decide | simp) (x_fieldAddr fo28_2 rfl (fr.ev rfl) rfl) ?_
  clear fr a; intro a fr
  refine fx_val (v := .slice A L.length cap) fr rfl rfl (by first | decide | simp) (x_load1 pl26 rfl (fr.ev rfl) (B4.cell 2 rfl)) ?_
  clear fr a; intro a fr
  refine fx_val (v := .int .i64 ((L.length : Nat) : Int)) fr rfl rfl (by first | decide | simp) (x_len Try.underlying26 rfl (fr.ev rfl)) ?_
  clear fr a; intro a fr
  refine fx_val (v := .bool (decide (((i : Nat) : Int) < ((L.length : Nat) : Int)))) fr rfl rfl (by first | decide | simp) (x_lss rfl (fr.ev rfl) (fr.ev rfl) rfl) ?_
  clear fr a; intro a fr
  refine wpList_nil ?_
  refine fx_next ?_
  refine fx_cond fr rfl (fun hc8 => ?_) (fun hc8 => ?_)
  · skip
    have hc8 := of_decide_eq_true hc8
    refine wp_skip ?_
    refine fx_next ?_
    refine wp_seq ?_
    refine wp_block ?_
    refine wp_seq ?_
    refine wp_region_lit ?_  -- region 4
    refine fx_val (v := .pointer (some ⟨b1, 2, none⟩)) fr rfl rfl (by first | decide | simp) (x_fieldAddr fo28_2 rfl (fr.ev rfl) rfl) ?_
    clear fr a; intro a fr
    refine fx_val (v := .slice A L.length cap) fr rfl rfl (by first | decide | simp) (x_load1 pl26 rfl (fr.ev rfl) (B4.cell 2 rfl)) ?_
    clear fr a; intro a fr
    refine fx_val (v := .int .i64 ((i : Nat) : Int)) fr rfl rfl (by first | decide | simp) (x_move rfl (fr.ev rfl)) ?_
    clear fr a; intro a fr
    obtain ⟨g9, o10, hA11⟩ := (hV).some_ (by omega)
    refine fx_val (v := .pointer (some ⟨g9, o10 + i * 18, none⟩)) fr rfl rfl (by first | decide | simp) (x_indexV Try.underlying26 sz39 rfl (fr.ev rfl) hA11 (fr.ev rfl) (by omega) rfl) ?_
    clear fr a; intro a fr
    refine fx_val (v := .pointer (some ⟨g9, o10 + i * 18, none⟩)) fr rfl rfl (by first | decide | simp) (x_fieldAddr fo39_0 rfl (fr.ev rfl) rfl) ?_
    clear fr a; intro a fr
    refine fx_val (v := .int .u32 ((L.getD i ln0).num)) fr rfl rfl (by first | decide | simp) (x_load1 pl33 rfl (fr.ev rfl) (range_cell ((hV).elem hA11 i ln0 (by omega)) 0 rfl rfl)) ?_
    clear fr a; intro a fr
    refine fx_val (v := .int .u32 number) fr rfl rfl (by first | decide | simp) (x_move rfl (fr.ev rfl)) ?_
    clear fr a; intro a fr
    refine fx_val (v := .bool (decide ((L.getD i ln0).num = number))) fr rfl rfl (by first | decide | simp) (x_eql rfl (fr.ev rfl) (fr.ev rfl) rfl) ?_
    clear fr a; intro a fr
    refine wpList_nil ?_
    refine fx_next ?_
    refine fx_cond fr rfl (fun hc12 => ?_) (fun hc12 => ?_)
    · skip
      have hc12 := of_decide_eq_true hc12
      refine wp_seq ?_
      refine wp_region_lit ?_  -- region 5
      refine fx_val (v := .int .i64 ((i : Nat) : Int)) fr rfl rfl (by first | decide | simp) (x_move rfl (fr.ev rfl)) ?_
      clear fr a; intro a fr
      refine fx_val (v := .int .i64 ((i : Nat) : Int)) fr rfl rfl (by first | decide | simp) (x_assign rfl (fr.ev rfl)) ?_
      clear fr a; intro a fr
      refine wpList_nil ?_
      refine fx_next ?_
      refine wp_ret ?_
      refine fx_rb ?_
      refine fx_rt ?_
      refine fx_rt ?_
      refine fx_rb ?_
      refine fx_rt ?_
      refine fx_ret fr [.tmp 4] [.int .i64 ((i : Nat) : Int)] rfl ⟨rfl, trivial⟩ rfl ?_
      exact ⟨_, rfl, congrArg (Value.int .i64) (fnd_yes (by omega) hc12 hall).symm, hF⟩
    · skip
      have hc12 := of_decide_eq_false hc12
      refine wp_skip ?_
      refine fx_blk ?_
      refine fx_next ?_
      refine wp_region_lit ?_  -- region 3
      refine fx_val (v := .int .i64 ((i : Nat) : Int)) fr rfl rfl (by first | decide | simp) (x_move rfl (fr.ev rfl)) ?_
      clear fr a; intro a fr
      refine fx_val (v := .int .i64 ((i + 1 : Nat) : Int)) fr rfl rfl (by first | decide | simp) (x_add rfl (fr.ev rfl) rfl (i64w (r := ((i + 1 : Nat) : Int)) (by omega) (by omega))) ?_
      clear fr a; intro a fr
      refine fx_val (v := .int .i64 ((i + 1 : Nat) : Int)) fr rfl rfl (by first | decide | simp) (x_assign rfl (fr.ev rfl)) ?_
      clear fr a; intro a fr
      refine wpList_nil ?_
      refine fx_next ?_
      exact ⟨_, by omega, (i + 1), rfl, fr.sub ⟨rfl, rfl, rfl, trivial⟩, hF, hV, B4, by omega, fun j hj => by rcases Nat.lt_succ_iff_lt_or_eq.1 hj with h | rfl; exact hall j h; exact hc12⟩
  · skip
    have hc8 := of_decide_eq_false hc8
    refine wp_exit ?_
    refine fx_xt ?_
    refine fx_xt ?_
    refine fx_xx ?_
    refine fx_next ?_
    refine wp_seq ?_
    refine wp_region_lit ?_  -- region 6
    refine fx_val (v := .int .i64 (-1)) fr rfl rfl (by first | decide | simp) (x_assign rfl rfl) ?_
    clear fr a; intro a fr
    refine wpList_nil ?_
    refine fx_next ?_
    refine wp_ret ?_
    refine fx_ret fr [.tmp 4] [.int .i64 (-1)] rfl ⟨rfl, trivial⟩ rfl ?_
    exact ⟨_, rfl, congrArg (Value.int .i64) (fnd_no fun j hj => hall j (by omega)).symm, hF⟩
set_option maxRecDepth 100000 in
set_option maxHeartbeats 4000000 in
theorem rof_c (i : Nat) {w : World} {A : Option Addr} {cap n : Nat} {ways : Int} {L : List Ln} (hV : View lnE w A cap L) (hn : 0 < n ∧ n ≤ 64) (hl : L.length ≤ 100000) : Calls Try.prog 33 #[.agg (#[.int .i64 ((n : Nat) : Int), .int .i64 ways, .slice A L.length cap]), .int .i64 ((i : Nat) : Int)] w (Ret fun v w' => ∃ A' cap', v = .slice A' (ofs n L i).length cap' ∧ Own lnE w' A' cap' (ofs n L i) ∧ (∀ g, inA A' g → w.heap.size ≤ g) ∧ New w w') := by
  have hVl := hV.len
  unfold maxLen at hVl
  have hF := Only.refl (fun _ => False) w
  refine fx_enter Try.func33 rfl (N := (33, [])) (T := [(0, .agg (#[.int .i64 ((n : Nat) : Int), .int .i64 ways, .slice A L.length cap])), (1, .int .i64 ((i : Nat) : Int))]) rfl (show 2 ≤ 33 by decide) ⟨rfl, rfl, trivial⟩ fun a fr => ?_
  refine wp_seq ?_
  refine wp_region_lit ?_  -- region 0
  refine fx_new fr rfl rfl (by first | decide | simp) (x_box (cs := #[.int .i64 ((n : Nat) : Int), .int .i64 ways, .slice A L.length cap]) rfl (fr.ev rfl) rfl) ?_
  clear fr a
  intro b1 w2 hN3 B4 hb5 a fr
  have ap_A_b1 : Apart A b1 := hV.apart hb5
  have g_b1 := Nat.le_trans hF.size hb5
  replace hV := hV.new hN3
  replace hF := hF.trNew hN3
  refine fx_val (v := .slice none 0 0) fr rfl rfl (by first | decide | simp) (x_assign rfl rfl) ?_
  clear fr a; intro a fr
  refine wpList_nil ?_
  refine fx_next ?_
  refine wp_seq ?_
  refine wp_region_lit ?_  -- region 1
  refine fx_val (v := .slice none 0 0) fr rfl rfl (by first | decide | simp) (x_assign rfl rfl) ?_
  clear fr a; intro a fr
  refine wpList_nil ?_
  refine fx_next ?_
  refine wp_seq ?_
  refine wp_seq ?_
  refine wp_region_lit ?_  -- region 2
  refine fx_val (v := .int .i64 0) fr rfl rfl (by first | decide | simp) (x_assign rfl rfl) ?_
  clear fr a; intro a fr
  refine wpList_nil ?_
  refine fx_next ?_
  refine wp_block ?_
  refine fx_loop (fun nM a wL => ∃ k : Nat, ∃ Sx : Option Addr, ∃ sc : Nat, ∃ os : List Ln, nM = L.length - k ∧ Fr (33, []) [(1, .int .i64 ((i : Nat) : Int)), (2, .pointer (some ⟨b1, 0, none⟩)), (5, .slice Sx os.length sc), (6, .int .i64 ((k : Nat) : Int))] a ∧ Only (fun _ => False) w wL ∧ View lnE wL A cap L ∧ Blk wL b1 28 (#[.int .i64 ((n : Nat) : Int), .int .i64 ways, .slice A L.length cap]) ∧ Own lnE wL Sx sc os ∧ k ≤ L.length ∧ os = (L.take k).filter (inSet n i) ∧ os.length ≤ k ∧ (Apart2 A Sx) ∧ (Apart Sx b1) ∧ (∀ g, inA Sx g → (fun _ => False) g ∨ w.heap.size ≤ g)) (n0 := _) ⟨0, none, 0, [], rfl, fr.sub ⟨rfl, rfl, rfl, rfl, trivial⟩, hF, hV, B4, Own.nil, by omega, rfl, Nat.le_refl _, (fun k _ h => apart_none k h), (apart_none b1), gA_none⟩ ?_
  rintro n7 a w6 ⟨k, Sx, sc, os, rfl, fr, hF, hV, B4, Oo, hk, hos, hok, ap2_A_Sx, ap_Sx_b1, gA_Sx⟩
  refine wp_seq ?_
  refine wp_seq ?_
  refine wp_region_lit ?_  -- region 3
  refine fx_val (v := .int .i64 ((k : Nat) : Int)) fr rfl rfl (by first | decide | simp) (x_move rfl (fr.ev rfl)) ?_
  clear fr a; intro a fr
  refine fx_val (v := .pointer (some ⟨b1, 2, none⟩)) fr rfl rfl (by first | decide | simp) (x_fieldAddr fo28_2 rfl (fr.ev rfl) rfl) ?_
  clear fr a; intro a fr
  refine fx_val (v := .slice A L.length cap) fr rfl rfl (by first | decide | simp) (x_load1 pl26 rfl (fr.ev rfl) (B4.cell 2 rfl)) ?_
  clear fr a; intro a fr
  refine fx_val (v := .int .i64 ((L.length : Nat) : Int)) fr rfl rfl (by first | decide | simp) (x_len Try.underlying26 rfl (fr.ev rfl)) ?_
  clear fr a; intro a fr
  refine fx_val (v := .bool (decide (((k : Nat) : Int) < ((L.length : Nat) : Int)))) fr rfl rfl (by first | decide | simp) (x_lss rfl (fr.ev rfl) (fr.ev rfl) rfl) ?_
  clear fr a; intro a fr
  refine wpList_nil ?_
  refine fx_next ?_
  refine fx_cond fr rfl (fun hc8 => ?_) (fun hc8 => ?_)
  · skip
    have hc8 := of_decide_eq_true hc8
    refine wp_skip ?_
    refine fx_next ?_
    refine wp_seq ?_
    refine wp_block ?_
    refine wp_seq ?_
    have hxn := (L.getD k ln0).hn
    refine fx_held (n := 10) (fun w => View lnE w A cap L ∧ Blk w b1 28 (#[.int .i64 ((n : Nat) : Int), .int .i64 ways, .slice A L.length cap]) ∧ Own lnE w Sx sc os ∧ True) (by kernel_rfl) rfl ?_  -- region 5
    intro w9 hN10
    replace hV := hV.new hN10
    replace B4 := B4.new hN10
    replace Oo := Oo.new hN10
    replace hF := hF.trNew hN10
    refine fx_take (i := 0) (v := .agg (#[.int .i64 ((n : Nat) : Int), .int .i64 ways, .slice A L.length cap])) fr rfl (by kernel_rfl) rfl rfl (by first | decide | simp) (fun _ _ _ h => h) (fun _ ⟨hV, B4, Oo, _⟩ => x_loadS ag28 rfl (fr.ev rfl) rfl B4.range) ⟨hV, B4, Oo, trivial⟩ ?_
    clear fr a; intro a fr
    refine fx_take (i := 1) (v := .pointer (some ⟨b1, 2, none⟩)) fr rfl (by kernel_rfl) rfl rfl (by first | decide | simp) (fun _ _ _ h => h) (fun _ ⟨hV, B4, Oo, _⟩ => x_fieldAddr fo28_2 rfl (fr.ev rfl) rfl) ⟨hV, B4, Oo, trivial⟩ ?_
    clear fr a; intro a fr
    refine fx_take (i := 2) (v := .slice A L.length cap) fr rfl (by kernel_rfl) rfl rfl (by first | decide | simp) (fun _ _ _ h => h) (fun _ ⟨hV, B4, Oo, _⟩ => x_load1 pl26 rfl (fr.ev rfl) (B4.cell 2 rfl)) ⟨hV, B4, Oo, trivial⟩ ?_
    clear fr a; intro a fr
    refine fx_take (i := 3) (v := .int .i64 ((k : Nat) : Int)) fr rfl (by kernel_rfl) rfl rfl (by first | decide | simp) (fun _ _ _ h => h) (fun _ ⟨hV, B4, Oo, _⟩ => x_move rfl (fr.ev rfl)) ⟨hV, B4, Oo, trivial⟩ ?_
    clear fr a; intro a fr
    obtain ⟨g11, o12, hA13⟩ := (hV).some_ (by omega)
    refine fx_take (i := 4) (v := .pointer (some ⟨g11, o12 + k * 18, none⟩)) fr rfl (by kernel_rfl) rfl rfl (by first | decide | simp) (fun _ _ _ h => h) (fun _ ⟨hV, B4, Oo, _⟩ => x_indexV Try.underlying26 sz39 rfl (fr.ev rfl) hA13 (fr.ev rfl) (by omega) rfl) ⟨hV, B4, Oo, trivial⟩ ?_
    clear fr a; intro a fr
    refine fx_take (i := 5) (v := .pointer (some ⟨g11, o12 + k * 18, none⟩)) fr rfl (by kernel_rfl) rfl rfl (by first | decide | simp) (fun _ _ _ h => h) (fun _ ⟨hV, B4, Oo, _⟩ => x_fieldAddr fo39_0 rfl (fr.ev rfl) rfl) ⟨hV, B4, Oo, trivial⟩ ?_
    clear fr a; intro a fr
    refine fx_take (i := 6) (v := .int .u32 ((L.getD k ln0).num)) fr rfl (by kernel_rfl) rfl rfl (by first | decide | simp) (fun _ _ _ h => h) (fun _ ⟨hV, B4, Oo, _⟩ => x_load1 pl33 rfl (fr.ev rfl) (range_cell ((hV).elem hA13 k ln0 (by omega)) 0 rfl rfl)) ⟨hV, B4, Oo, trivial⟩ ?_
    clear fr a; intro a fr
    refine fx_take (i := 8) (v := .int .i64 ((i : Nat) : Int)) fr rfl (by kernel_rfl) rfl rfl (by first | decide | simp) (fun _ _ _ h => h) (fun _ ⟨hV, B4, Oo, _⟩ => x_move rfl (fr.ev rfl)) ⟨hV, B4, Oo, trivial⟩ ?_
    clear fr a; intro a fr
    refine fx_one (i := 7) (by kernel_rfl) (fx_op rfl ?_)
    refine fx_call fr rfl rfl (by first | decide | simp) (x_call (vs := [.agg (#[.int .i64 ((n : Nat) : Int), .int .i64 ways, .slice A L.length cap]), .int .u32 ((L.getD k ln0).num)]) rfl rfl ⟨(fr.ev rfl), (fr.ev rfl), trivial⟩ Try.func34 nm34 rfl) (rset_c ((L.getD k ln0).num) (by omega) (by omega) _) ?_
    clear fr a
    rintro v w14 ⟨rfl, hN15⟩ a fr
    replace hV := hV.new hN15
    replace B4 := B4.new hN15
    replace Oo := Oo.new hN15
    replace hF := hF.trNew hN15
    refine wpList_nil ?_
    refine ⟨⟨hV, B4, Oo, trivial⟩, ?_⟩
    refine fx_take (i := 9) (v := .bool (decide (((si n ((L.getD k ln0).num) : Nat) : Int) = ((i : Nat) : Int)))) fr rfl (by kernel_rfl) rfl rfl (by first | decide | simp) (fun _ _ _ h => h) (fun _ ⟨hV, B4, Oo, _⟩ => x_eql rfl (fr.ev rfl) (fr.ev rfl) rfl) ⟨hV, B4, Oo, trivial⟩ ?_
    clear fr a; intro a fr
    refine fx_hdone (by kernel_rfl) ?_
    refine fx_next ?_
    refine fx_cond fr rfl (fun hc16 => ?_) (fun hc16 => ?_)
    · skip
      have hc16 := of_decide_eq_true hc16
      refine wp_region_lit ?_  -- region 6
      refine fx_val (v := .slice Sx os.length sc) fr rfl rfl (by first | decide | simp) (x_move rfl (fr.ev rfl)) ?_
      clear fr a; intro a fr
      refine fx_val (v := .pointer (some ⟨b1, 2, none⟩)) fr rfl rfl (by first | decide | simp) (x_fieldAddr fo28_2 rfl (fr.ev rfl) rfl) ?_
      clear fr a; intro a fr
      refine fx_val (v := .slice A L.length cap) fr rfl rfl (by first | decide | simp) (x_load1 pl26 rfl (fr.ev rfl) (B4.cell 2 rfl)) ?_
      clear fr a; intro a fr
      refine fx_val (v := .int .i64 ((k : Nat) : Int)) fr rfl rfl (by first | decide | simp) (x_move rfl (fr.ev rfl)) ?_
      clear fr a; intro a fr
      refine fx_val (v := .pointer (some ⟨g11, o12 + k * 18, none⟩)) fr rfl rfl (by first | decide | simp) (x_indexV Try.underlying26 sz39 rfl (fr.ev rfl) hA13 (fr.ev rfl) (by omega) rfl) ?_
      clear fr a; intro a fr
      refine fx_val (v := .agg (lnE.arr (L.getD k ln0))) fr rfl rfl (by first | decide | simp) (x_loadE (E := lnE) ag39 rfl rfl (fr.ev rfl) ((hV).elem hA13 k ln0 (by omega))) ?_
      clear fr a; intro a fr
      refine fx_build1 (E := lnE) (p := (L.getD k ln0)) elLn (by decide) fr rfl rfl (by decide) rfl (fr.ev rfl) ?_
      clear fr a
      intro A17 w18 hN19 O20 hA21 a fr
      have ap2_A_A17 : Apart2 A A17 := (new_apart2 hA21 fun _ hg => hV.lt hg).symm
      have ap_A17_b1 : Apart A17 b1 := new_apart hA21 B4.lt
      have ap2_Sx_A17 : Apart2 Sx A17 := (new_apart2 hA21 fun _ hg => Oo.lt hg).symm
      have gA_A17 := gA_new hF hA21
      replace hV := hV.new hN19
      replace B4 := B4.new hN19
      replace Oo := Oo.new hN19
      replace hF := hF.trNew hN19
      refine fx_append (E := lnE) (l := os) (l' := [(L.getD k ln0)]) elLn fr rfl rfl (by decide) rfl (fr.ev rfl) (fr.ev rfl) (by first | rfl | (simp; done) | (simp; omega)) (by first | rfl | (simp; done) | (simp; omega)) Oo O20.view (by first | omega | (simp only [List.length_append, List.length_cons, List.length_nil, List.nil_append]; omega) | (simp; omega)) (by unfold maxLen; first | omega | (simp; omega)) ?_
      clear fr a
      intro A22 cap23 w24 O25 hO26 mv27 a fr
      have ap2_A22_A : Apart2 A22 A := moved_apart2 mv27 ap2_A_Sx.symm fun _ hg => hV.lt hg
      have ap_A22_b1 : Apart A22 b1 := moved_apart mv27 ap_Sx_b1 B4.lt
      have ap2_A22_A17 : Apart2 A22 A17 := moved_apart2 mv27 ap2_Sx_A17 fun _ hg => O20.lt hg
      have gA_A22 := gA_moved hF mv27 gA_Sx
      replace hV := hV.only hO26 (fun g h1 h2 => ap2_A_Sx g h1 h2)
      replace B4 := B4.only hO26 ap_Sx_b1
      replace O20 := O20.only hO26 (fun g h1 h2 => ap2_Sx_A17.symm g h1 h2)
      replace hF := hF.locA hO26 gA_Sx
      clear Oo
      refine fx_val (v := .slice A22 ((os ++ ([(L.getD k ln0)])).length) cap23) fr rfl rfl (by first | decide | simp) (x_assign rfl (fr.ev rfl)) ?_
      clear fr a; intro a fr
      refine wpList_nil ?_
      refine fx_blk ?_
      refine fx_next ?_
      refine wp_region_lit ?_  -- region 4
      refine fx_val (v := .int .i64 ((k : Nat) : Int)) fr rfl rfl (by first | decide | simp) (x_move rfl (fr.ev rfl)) ?_
      clear fr a; intro a fr
      refine fx_val (v := .int .i64 ((k + 1 : Nat) : Int)) fr rfl rfl (by first | decide | simp) (x_add rfl (fr.ev rfl) rfl (i64w (r := ((k + 1 : Nat) : Int)) (by omega) (by omega))) ?_
      clear fr a; intro a fr
      refine fx_val (v := .int .i64 ((k + 1 : Nat) : Int)) fr rfl rfl (by first | decide | simp) (x_assign rfl (fr.ev rfl)) ?_
      clear fr a; intro a fr
      refine wpList_nil ?_
      refine fx_next ?_
      exact ⟨_, by omega, (k + 1), A22, cap23, (os ++ ([(L.getD k ln0)])), rfl, fr.sub ⟨rfl, rfl, rfl, rfl, trivial⟩, hF, hV, B4, O25, by omega, (by rw [selF_yes (p := inSet n i) (by omega) (by unfold inSet; rw [decide_eq_true_eq]; omega), hos]), (by simp; omega), ap2_A22_A.symm, ap_A22_b1, gA_A22⟩
    · skip
      have hc16 := of_decide_eq_false hc16
      refine wp_skip ?_
      refine fx_blk ?_
      refine fx_next ?_
      refine wp_region_lit ?_  -- region 4
      refine fx_val (v := .int .i64 ((k : Nat) : Int)) fr rfl rfl (by first | decide | simp) (x_move rfl (fr.ev rfl)) ?_
      clear fr a; intro a fr
      refine fx_val (v := .int .i64 ((k + 1 : Nat) : Int)) fr rfl rfl (by first | decide | simp) (x_add rfl (fr.ev rfl) rfl (i64w (r := ((k + 1 : Nat) : Int)) (by omega) (by omega))) ?_
      clear fr a; intro a fr
      refine fx_val (v := .int .i64 ((k + 1 : Nat) : Int)) fr rfl rfl (by first | decide | simp) (x_assign rfl (fr.ev rfl)) ?_
      clear fr a; intro a fr
      refine wpList_nil ?_
      refine fx_next ?_
      exact ⟨_, by omega, (k + 1), Sx, sc, os, rfl, fr.sub ⟨rfl, rfl, rfl, rfl, trivial⟩, hF, hV, B4, Oo, by omega, (by rw [selF_no (p := inSet n i) (by omega) (by unfold inSet; rw [decide_eq_true_eq]; omega), hos]), by omega, ap2_A_Sx, ap_Sx_b1, gA_Sx⟩
  · skip
    have hc8 := of_decide_eq_false hc8
    refine wp_exit ?_
    refine fx_xt ?_
    refine fx_xt ?_
    refine fx_xx ?_
    refine fx_next ?_
    refine wp_seq ?_
    refine wp_region_lit ?_  -- region 7
    refine fx_val (v := .slice Sx os.length sc) fr rfl rfl (by first | decide | simp) (x_move rfl (fr.ev rfl)) ?_
    clear fr a; intro a fr
    refine fx_val (v := .slice Sx os.length sc) fr rfl rfl (by first | decide | simp) (x_assign rfl (fr.ev rfl)) ?_
    clear fr a; intro a fr
    refine wpList_nil ?_
    refine fx_next ?_
    refine wp_ret ?_
    refine fx_ret fr [.tmp 4] [.slice Sx os.length sc] rfl ⟨rfl, trivial⟩ rfl ?_
    obtain rfl : k = L.length := by omega
    rw [List.take_of_length_le (Nat.le_refl _)] at hos
    subst hos
    exact ⟨_, rfl, Sx, sc, rfl, Oo, fun g hg => (gA_Sx g hg).resolve_left id, hF⟩
set_option maxRecDepth 100000 in
set_option maxHeartbeats 4000000 in
theorem rvictim_c (number : Int) (hnum : 0 ≤ number ∧ number < 4294967296) (pick : Int) {w : World} {A : Option Addr} {cap n : Nat} {ways : Int} {L : List Ln} (hV : View lnE w A cap L) (hn : 0 < n ∧ n ≤ 64) (hl : L.length ≤ 100000) (hw : 1 ≤ ways) : Calls Try.prog 16 #[.agg (#[.int .i64 ((n : Nat) : Int), .int .i64 ways, .slice A L.length cap]), .int .u32 number, .int .i64 pick] w (Ret fun v w' => v = .tuple #[.agg (lnE.arr ((vicL n ways L number pick).getD ln0)), .bool (vicL n ways L number pick).isSome] ∧ New w w') := by
  have hVl := hV.len
  unfold maxLen at hVl
  have hol := ofs_le (n := n) (i := si n number) L
  have hF := Only.refl (fun _ => False) w
  refine fx_enter Try.func16 rfl (N := (33, [])) (T := [(0, .agg (#[.int .i64 ((n : Nat) : Int), .int .i64 ways, .slice A L.length cap])), (1, .int .u32 number), (2, .int .i64 pick)]) rfl (show 3 ≤ 33 by decide) ⟨rfl, rfl, rfl, trivial⟩ fun a fr => ?_
  refine wp_seq ?_
  refine wp_region_lit ?_  -- region 0
  refine fx_new fr rfl rfl (by first | decide | simp) (x_box (cs := #[.int .i64 ((n : Nat) : Int), .int .i64 ways, .slice A L.length cap]) rfl (fr.ev rfl) rfl) ?_
  clear fr a
  intro b1 w2 hN3 B4 hb5 a fr
  have ap_A_b1 : Apart A b1 := hV.apart hb5
  have g_b1 := Nat.le_trans hF.size hb5
  replace hV := hV.new hN3
  replace hF := hF.trNew hN3
  refine fx_new fr rfl rfl (by first | decide | simp) (x_alloc (z := .agg (#[.int .u32 0, .int .i64 0, .int .u8 0, .int .u8 0, .int .u8 0, .int .u8 0, .int .u8 0, .int .u8 0, .int .u8 0, .int .u8 0, .int .u8 0, .int .u8 0, .int .u8 0, .int .u8 0, .int .u8 0, .int .u8 0, .int .u8 0, .int .u8 0])) (cs := lnE.arr ln0) rfl (by kernel_rfl) rfl) ?_
  clear fr a
  intro b6 w7 hN8 B9 hb10 a fr
  have ap_A_b6 : Apart A b6 := hV.apart hb10
  have ne_b1_b6 : NE b1 b6 := NE.mk (Nat.lt_of_lt_of_le B4.lt hb10)
  have g_b6 := Nat.le_trans hF.size hb10
  replace hV := hV.new hN8
  replace B4 := B4.new hN8
  replace hF := hF.trNew hN8
  refine fx_val (v := .bool false) fr rfl rfl (by first | decide | simp) (x_assign rfl rfl) ?_
  clear fr a; intro a fr
  refine wpList_nil ?_
  refine fx_next ?_
  refine wp_seq ?_
  refine fx_heldT (n := 5) (k := 5) (fun w => View lnE w A cap L ∧ Blk w b1 28 (#[.int .i64 ((n : Nat) : Int), .int .i64 ways, .slice A L.length cap]) ∧ Blk w b6 39 (lnE.arr ln0) ∧ True) (by kernel_rfl) (by kernel_rfl) rfl ?_  -- region 1
  intro w11 hN12
  replace hV := hV.new hN12
  replace B4 := B4.new hN12
  replace B9 := B9.new hN12
  replace hF := hF.trNew hN12
  refine fx_take (i := 0) (v := .agg (#[.int .i64 ((n : Nat) : Int), .int .i64 ways, .slice A L.length cap])) fr rfl (by kernel_rfl) rfl rfl (by first | decide | simp) (fun _ _ _ h => h) (fun _ ⟨hV, B4, B9, _⟩ => x_loadS ag28 rfl (fr.ev rfl) rfl B4.range) ⟨hV, B4, B9, trivial⟩ ?_
  clear fr a; intro a fr
  refine fx_take (i := 1) (v := .agg (#[.int .i64 ((n : Nat) : Int), .int .i64 ways, .slice A L.length cap])) fr rfl (by kernel_rfl) rfl rfl (by first | decide | simp) (fun _ _ _ h => h) (fun _ ⟨hV, B4, B9, _⟩ => x_loadS ag28 rfl (fr.ev rfl) rfl B4.range) ⟨hV, B4, B9, trivial⟩ ?_
  clear fr a; intro a fr
  refine fx_take (i := 2) (v := .int .u32 number) fr rfl (by kernel_rfl) rfl rfl (by first | decide | simp) (fun _ _ _ h => h) (fun _ ⟨hV, B4, B9, _⟩ => x_move rfl (fr.ev rfl)) ⟨hV, B4, B9, trivial⟩ ?_
  clear fr a; intro a fr
  refine fx_one (i := 3) (by kernel_rfl) (fx_op rfl ?_)
  refine fx_call fr rfl rfl (by first | decide | simp) (x_call (vs := [.agg (#[.int .i64 ((n : Nat) : Int), .int .i64 ways, .slice A L.length cap]), .int .u32 number]) rfl rfl ⟨(fr.ev rfl), (fr.ev rfl), trivial⟩ Try.func34 nm34 rfl) (rset_c number (by omega) (by omega) _) ?_
  clear fr a
  rintro v w13 ⟨rfl, hN14⟩ a fr
  replace hV := hV.new hN14
  replace B4 := B4.new hN14
  replace B9 := B9.new hN14
  replace hF := hF.trNew hN14
  refine wpList_nil ?_
  refine ⟨⟨hV, B4, B9, trivial⟩, ?_⟩
  refine fx_one (i := 4) (by kernel_rfl) (fx_op rfl ?_)
  refine fx_call fr rfl rfl (by first | decide | simp) (x_call (vs := [.agg (#[.int .i64 ((n : Nat) : Int), .int .i64 ways, .slice A L.length cap]), .int .i64 ((si n number : Nat) : Int)]) rfl rfl ⟨(fr.ev rfl), (fr.ev rfl), trivial⟩ Try.func33 nm33 rfl) (rof_c (si n number) (ways := ways) (hV) (by omega) (by omega)) ?_
  clear fr a
  rintro v w19 ⟨A15, cap16, rfl, O17, hA18, hN20⟩ a fr
  have ap2_A_A15 : Apart2 A A15 := (new_apart2 hA18 fun _ hg => hV.lt hg).symm
  have ap_A15_b1 : Apart A15 b1 := new_apart hA18 B4.lt
  have ap_A15_b6 : Apart A15 b6 := new_apart hA18 B9.lt
  have gA_A15 := gA_new hF hA18
  replace hV := hV.new hN20
  replace B4 := B4.new hN20
  replace B9 := B9.new hN20
  replace hF := hF.trNew hN20
  refine wpList_nil ?_
  refine ⟨⟨hV, B4, B9, trivial⟩, ?_⟩
  refine fx_hdone (by kernel_rfl) ?_
  refine fx_tail ?_
  refine fx_val (v := .slice A15 ((ofs n L (si n number)).length) cap16) fr rfl rfl (by first | decide | simp) (x_assign rfl (fr.ev rfl)) ?_
  clear fr a; intro a fr
  refine wpList_nil ?_
  refine fx_next ?_
  refine wp_seq ?_
  refine wp_seq ?_
  rcases fnd_spec L number with ⟨hf, hno⟩ | ⟨i, hf, hi, hin, hall⟩
  · skip
    have hg : getN L number = none := fnd_none ⟨hf, hno⟩
    have hf0 : ¬ 0 ≤ fndI L number := by rw [hf]; omega
    refine wp_region_lit ?_  -- region 2
    refine fx_val (v := .agg (#[.int .i64 ((n : Nat) : Int), .int .i64 ways, .slice A L.length cap])) fr rfl rfl (by first | decide | simp) (x_loadS ag28 rfl (fr.ev rfl) rfl B4.range) ?_
    clear fr a; intro a fr
    refine fx_val (v := .int .u32 number) fr rfl rfl (by first | decide | simp) (x_move rfl (fr.ev rfl)) ?_
    clear fr a; intro a fr
    refine fx_call fr rfl rfl (by first | decide | simp) (x_call (vs := [.agg (#[.int .i64 ((n : Nat) : Int), .int .i64 ways, .slice A L.length cap]), .int .u32 number]) rfl rfl ⟨(fr.ev rfl), (fr.ev rfl), trivial⟩ Try.func17 nm17 rfl) (rfind_c number (ways := ways) (hV) (by omega)) ?_
    clear fr a
    rintro v w21 ⟨rfl, hN22⟩ a fr
    replace hV := hV.new hN22
    replace B4 := B4.new hN22
    replace B9 := B9.new hN22
    replace O17 := O17.new hN22
    replace hF := hF.trNew hN22
    refine fx_val (v := .bool false) fr rfl rfl (by first | decide | simp) (x_geq rfl (fr.ev rfl) rfl (decide_eq_false hf0)) ?_
    clear fr a; intro a fr
    refine fx_val (v := .bool false) fr rfl rfl (by first | decide | simp) (x_move rfl (fr.ev rfl)) ?_
    clear fr a; intro a fr
    refine fx_val (v := .slice A15 ((ofs n L (si n number)).length) cap16) fr (fr.want rfl rfl rfl) rfl (by first | decide | simp) (x_move rfl (fr.ev rfl)) ?_
    clear fr a; intro a fr
    refine fx_val (v := .int .i64 (((ofs n L (si n number)).length : Nat) : Int)) fr (fr.want rfl rfl rfl) rfl (by first | decide | simp) (x_len Try.underlying26 rfl (fr.ev rfl)) ?_
    clear fr a; intro a fr
    refine fx_val (v := .pointer (some ⟨b1, 1, none⟩)) fr (fr.want rfl rfl rfl) rfl (by first | decide | simp) (x_fieldAddr fo28_1 rfl (fr.ev rfl) rfl) ?_
    clear fr a; intro a fr
    refine fx_val (v := .int .i64 ways) fr (fr.want rfl rfl rfl) rfl (by first | decide | simp) (x_load1 pl3 rfl (fr.ev rfl) (B4.cell 1 rfl)) ?_
    clear fr a; intro a fr
    refine fx_val (v := .bool (decide ((((ofs n L (si n number)).length : Nat) : Int) < ways))) fr (fr.want rfl rfl rfl) rfl (by first | decide | simp) (x_lss rfl (fr.ev rfl) (fr.ev rfl) rfl) ?_
    clear fr a; intro a fr
    refine fx_val (v := .bool (decide ((((ofs n L (si n number)).length : Nat) : Int) < ways))) fr rfl rfl (by first | decide | simp) (x_pick_f rfl (fr.ev rfl) (fr.ev rfl)) ?_
    clear fr a; intro a fr
    refine wpList_nil ?_
    refine fx_next ?_
    refine fx_cond fr rfl (fun hc23 => ?_) (fun hc23 => ?_)
    · skip
      have hc23 := of_decide_eq_true hc23
      refine wp_seq ?_
      refine wp_region_lit ?_  -- region 3
      refine fx_val (v := .agg (lnE.arr ln0)) fr rfl rfl (by first | decide | simp) (x_build (cells := lnE.arr ln0) rfl (by kernel_rfl)) ?_
      clear fr a; intro a fr
      refine fx_storeS sz39 rfl rfl rfl (fr.ev rfl) (fr.ev rfl) (lnE.all _) B9 (lnE.size _) (lnE.size _) fun w24 hO25 hBq => ?_
      replace hV := hV.only hO25 (Apart.ne1 ap_A_b6)
      replace B4 := B4.only hO25 (by first | exact ne_b1_b6 | exact ne_b6_b1.symm | (show ¬ b1 = b6; omega))
      replace O17 := O17.only hO25 (Apart.ne1 ap_A15_b6)
      replace hF := hF.loc hO25 (.inr g_b6)
      replace B9 := hBq
      clear hBq
      refine fx_val (v := .bool false) fr rfl rfl (by first | decide | simp) (x_assign rfl rfl) ?_
      clear fr a; intro a fr
      refine wpList_nil ?_
      refine fx_next ?_
      refine wp_ret ?_
      refine fx_rt ?_
      refine fx_ret fr [.cell 6 39, .tmp 7] [.agg (lnE.arr ln0), .bool false] rfl ⟨⟨_, rfl, loadV_E (E := lnE) ag39 rfl (B9.rangeE lnE)⟩, rfl, trivial⟩ rfl ?_
      have hv : vicL n ways L number pick = none := by unfold vicL; rw [if_neg (fun h => by omega)]
      rw [hv]
      exact ⟨_, rfl, rfl, hF⟩
    · skip
      have hc23 := of_decide_eq_false hc23
      refine wp_skip ?_
      refine fx_next ?_
      refine wp_seq ?_
      refine wp_region_lit ?_  -- region 4
      refine fx_val (v := .slice A15 ((ofs n L (si n number)).length) cap16) fr rfl rfl (by first | decide | simp) (x_move rfl (fr.ev rfl)) ?_
      clear fr a; intro a fr
      refine fx_val (v := .int .i64 pick) fr rfl rfl (by first | decide | simp) (x_move rfl (fr.ev rfl)) ?_
      clear fr a; intro a fr
      refine fx_val (v := .slice A15 ((ofs n L (si n number)).length) cap16) fr rfl rfl (by first | decide | simp) (x_move rfl (fr.ev rfl)) ?_
      clear fr a; intro a fr
      refine fx_val (v := .int .i64 (((ofs n L (si n number)).length : Nat) : Int)) fr rfl rfl (by first | decide | simp) (x_len Try.underlying26 rfl (fr.ev rfl)) ?_
      clear fr a; intro a fr
      refine fx_call fr rfl rfl (by first | decide | simp) (x_call (vs := [.int .i64 pick, .int .i64 (((ofs n L (si n number)).length : Nat) : Int)]) rfl rfl ⟨(fr.ev rfl), (fr.ev rfl), trivial⟩ Try.func35 nm35 rfl) (choice_c pick (n := (ofs n L (si n number)).length) (by omega) (by omega) _) ?_
      clear fr a
      rintro v w9 ⟨rfl, hw9⟩ a fr
      obtain rfl := hw9.symm
      have hpk := pickAt_lt pick ((ofs n L (si n number)).length) (by omega)
      obtain ⟨g28, o29, hA30⟩ := (O17.view).some_ (by omega)
      refine fx_val (v := .pointer (some ⟨g28, o29 + (pickAt pick ((ofs n L (si n number)).length)) * 18, none⟩)) fr rfl rfl (by first | decide | simp) (x_indexV Try.underlying26 sz39 rfl (fr.ev rfl) hA30 (fr.ev rfl) (by omega) rfl) ?_
      clear fr a; intro a fr
      refine fx_val (v := .agg (lnE.arr ((ofs n L (si n number)).getD (pickAt pick ((ofs n L (si n number)).length)) ln0))) fr rfl rfl (by first | decide | simp) (x_loadE (E := lnE) ag39 rfl rfl (fr.ev rfl) ((O17.view).elem hA30 (pickAt pick ((ofs n L (si n number)).length)) ln0 (by omega))) ?_
      clear fr a; intro a fr
      refine fx_storeS sz39 rfl rfl rfl (fr.ev rfl) (fr.ev rfl) (lnE.all _) B9 (lnE.size _) (lnE.size _) fun w31 hO32 hBq => ?_
      replace hV := hV.only hO32 (Apart.ne1 ap_A_b6)
      replace B4 := B4.only hO32 (by first | exact ne_b1_b6 | exact ne_b6_b1.symm | (show ¬ b1 = b6; omega))
      replace O17 := O17.only hO32 (Apart.ne1 ap_A15_b6)
      replace hF := hF.loc hO32 (.inr g_b6)
      replace B9 := hBq
      clear hBq
      refine fx_val (v := .bool true) fr rfl rfl (by first | decide | simp) (x_assign rfl rfl) ?_
      clear fr a; intro a fr
      refine wpList_nil ?_
      refine fx_next ?_
      refine wp_ret ?_
      refine fx_ret fr [.cell 6 39, .tmp 7] [.agg (lnE.arr ((ofs n L (si n number)).getD (pickAt pick ((ofs n L (si n number)).length)) ln0)), .bool true] rfl ⟨⟨_, rfl, loadV_E (E := lnE) ag39 rfl (B9.rangeE lnE)⟩, rfl, trivial⟩ rfl ?_
      have hv : vicL n ways L number pick = some ((ofs n L (si n number)).getD (pickAt pick (ofs n L (si n number)).length) ln0) := by unfold vicL; rw [if_pos ⟨hg, by omega⟩]
      rw [hv]
      exact ⟨_, rfl, rfl, hF⟩
  · skip
    have hg : getN L number = some (L.getD i ln0) := get_at hi hin hall
    have hf0 : 0 ≤ fndI L number := by rw [hf]; omega
    refine wp_region_lit ?_  -- region 2
    refine fx_val (v := .agg (#[.int .i64 ((n : Nat) : Int), .int .i64 ways, .slice A L.length cap])) fr rfl rfl (by first | decide | simp) (x_loadS ag28 rfl (fr.ev rfl) rfl B4.range) ?_
    clear fr a; intro a fr
    refine fx_val (v := .int .u32 number) fr rfl rfl (by first | decide | simp) (x_move rfl (fr.ev rfl)) ?_
    clear fr a; intro a fr
    refine fx_call fr rfl rfl (by first | decide | simp) (x_call (vs := [.agg (#[.int .i64 ((n : Nat) : Int), .int .i64 ways, .slice A L.length cap]), .int .u32 number]) rfl rfl ⟨(fr.ev rfl), (fr.ev rfl), trivial⟩ Try.func17 nm17 rfl) (rfind_c number (ways := ways) (hV) (by omega)) ?_
    clear fr a
    rintro v w33 ⟨rfl, hN34⟩ a fr
    replace hV := hV.new hN34
    replace B4 := B4.new hN34
    replace B9 := B9.new hN34
    replace O17 := O17.new hN34
    replace hF := hF.trNew hN34
    refine fx_val (v := .bool true) fr rfl rfl (by first | decide | simp) (x_geq rfl (fr.ev rfl) rfl (decide_eq_true hf0)) ?_
    clear fr a; intro a fr
    refine fx_val (v := .bool true) fr rfl rfl (by first | decide | simp) (x_move rfl (fr.ev rfl)) ?_
    clear fr a; intro a fr
    refine fx_skip fr (fr.unwant rfl rfl rfl (by decide)) rfl (by first | decide | simp) ?_
    clear fr a; intro a fr
    refine fx_skip fr (fr.unwant rfl rfl rfl (by decide)) rfl (by first | decide | simp) ?_
    clear fr a; intro a fr
    refine fx_skip fr (fr.unwant rfl rfl rfl (by decide)) rfl (by first | decide | simp) ?_
    clear fr a; intro a fr
    refine fx_skip fr (fr.unwant rfl rfl rfl (by decide)) rfl (by first | decide | simp) ?_
    clear fr a; intro a fr
    refine fx_skip fr (fr.unwant rfl rfl rfl (by decide)) rfl (by first | decide | simp) ?_
    clear fr a; intro a fr
    refine fx_val (v := .bool true) fr rfl rfl (by first | decide | simp) (x_pick_t rfl (fr.ev rfl) rfl) ?_
    clear fr a; intro a fr
    refine wpList_nil ?_
    refine fx_next ?_
    refine fx_cond_t fr rfl ?_
    refine wp_seq ?_
    refine wp_region_lit ?_  -- region 3
    refine fx_val (v := .agg (lnE.arr ln0)) fr rfl rfl (by first | decide | simp) (x_build (cells := lnE.arr ln0) rfl (by kernel_rfl)) ?_
    clear fr a; intro a fr
    refine fx_storeS sz39 rfl rfl rfl (fr.ev rfl) (fr.ev rfl) (lnE.all _) B9 (lnE.size _) (lnE.size _) fun w35 hO36 hBq => ?_
    replace hV := hV.only hO36 (Apart.ne1 ap_A_b6)
    replace B4 := B4.only hO36 (by first | exact ne_b1_b6 | exact ne_b6_b1.symm | (show ¬ b1 = b6; omega))
    replace O17 := O17.only hO36 (Apart.ne1 ap_A15_b6)
    replace hF := hF.loc hO36 (.inr g_b6)
    replace B9 := hBq
    clear hBq
    refine fx_val (v := .bool false) fr rfl rfl (by first | decide | simp) (x_assign rfl rfl) ?_
    clear fr a; intro a fr
    refine wpList_nil ?_
    refine fx_next ?_
    refine wp_ret ?_
    refine fx_rt ?_
    refine fx_ret fr [.cell 6 39, .tmp 7] [.agg (lnE.arr ln0), .bool false] rfl ⟨⟨_, rfl, loadV_E (E := lnE) ag39 rfl (B9.rangeE lnE)⟩, rfl, trivial⟩ rfl ?_
    have hv : vicL n ways L number pick = none := by unfold vicL; rw [if_neg (fun h => by rw [hg] at h; cases h.1)]
    rw [hv]
    exact ⟨_, rfl, rfl, hF⟩
set_option maxRecDepth 100000 in
set_option maxHeartbeats 4000000 in
theorem rdrop_c (number : Int) {w : World} {A : Option Addr} {cap n : Nat} {ways : Int} {L : List Ln} (hV : View lnE w A cap L) (hn : 0 < n ∧ n ≤ 64) (hl : L.length ≤ 100000) : Calls Try.prog 23 #[.agg (#[.int .i64 ((n : Nat) : Int), .int .i64 ways, .slice A L.length cap]), .int .u32 number] w (Ret fun v w' => ∃ A' cap', v = .agg #[.int .i64 ((n : Nat) : Int), .int .i64 ways, .slice A' (dropL L number).length cap'] ∧ View lnE w' A' cap' (dropL L number) ∧ (∀ g, inA A' g → inA A g ∨ w.heap.size ≤ g) ∧ New w w') := by
  have hVl := hV.len
  unfold maxLen at hVl
  have hF := Only.refl (fun _ => False) w
  refine fx_enter Try.func23 rfl (N := (33, [])) (T := [(0, .agg (#[.int .i64 ((n : Nat) : Int), .int .i64 ways, .slice A L.length cap])), (1, .int .u32 number)]) rfl (show 2 ≤ 33 by decide) ⟨rfl, rfl, trivial⟩ fun a fr => ?_
  refine wp_seq ?_
  refine wp_region_lit ?_  -- region 0
  refine fx_new fr rfl rfl (by first | decide | simp) (x_box (cs := #[.int .i64 ((n : Nat) : Int), .int .i64 ways, .slice A L.length cap]) rfl (fr.ev rfl) rfl) ?_
  clear fr a
  intro b1 w2 hN3 B4 hb5 a fr
  have ap_A_b1 : Apart A b1 := hV.apart hb5
  have g_b1 := Nat.le_trans hF.size hb5
  replace hV := hV.new hN3
  replace hF := hF.trNew hN3
  refine fx_new fr rfl rfl (by first | decide | simp) (x_alloc (z := .agg (#[.int .i64 0, .int .i64 0, .slice none 0 0])) (cs := #[.int .i64 0, .int .i64 0, .slice none 0 0]) rfl (by kernel_rfl) rfl) ?_
  clear fr a
  intro b6 w7 hN8 B9 hb10 a fr
  have ap_A_b6 : Apart A b6 := hV.apart hb10
  have ne_b1_b6 : NE b1 b6 := NE.mk (Nat.lt_of_lt_of_le B4.lt hb10)
  have g_b6 := Nat.le_trans hF.size hb10
  replace hV := hV.new hN8
  replace B4 := B4.new hN8
  replace hF := hF.trNew hN8
  refine wpList_nil ?_
  refine fx_next ?_
  refine wp_seq ?_
  refine wp_region_lit ?_  -- region 1
  refine fx_val (v := .slice none 0 0) fr rfl rfl (by first | decide | simp) (x_assign rfl rfl) ?_
  clear fr a; intro a fr
  refine wpList_nil ?_
  refine fx_next ?_
  refine wp_seq ?_
  refine wp_seq ?_
  refine wp_region_lit ?_  -- region 2
  refine fx_val (v := .int .i64 0) fr rfl rfl (by first | decide | simp) (x_assign rfl rfl) ?_
  clear fr a; intro a fr
  refine wpList_nil ?_
  refine fx_next ?_
  refine wp_block ?_
  refine fx_loop (fun nM a wL => ∃ k : Nat, ∃ Sx : Option Addr, ∃ sc : Nat, ∃ os : List Ln, nM = L.length - k ∧ Fr (33, []) [(1, .int .u32 number), (2, .pointer (some ⟨b1, 0, none⟩)), (4, .pointer (some ⟨b6, 0, none⟩)), (5, .slice Sx os.length sc), (6, .int .i64 ((k : Nat) : Int))] a ∧ Only (fun _ => False) w wL ∧ View lnE wL A cap L ∧ Blk wL b1 28 (#[.int .i64 ((n : Nat) : Int), .int .i64 ways, .slice A L.length cap]) ∧ Blk wL b6 28 (#[.int .i64 0, .int .i64 0, .slice none 0 0]) ∧ Own lnE wL Sx sc os ∧ k ≤ L.length ∧ os = (L.take k).filter (fun x => !isNum number x) ∧ os.length ≤ k ∧ (Apart2 A Sx) ∧ (Apart Sx b1) ∧ (Apart Sx b6) ∧ (∀ g, inA Sx g → (fun _ => False) g ∨ w.heap.size ≤ g)) (n0 := _) ⟨0, none, 0, [], rfl, fr.sub ⟨rfl, rfl, rfl, rfl, rfl, trivial⟩, hF, hV, B4, B9, Own.nil, by omega, rfl, Nat.le_refl _, (fun k _ h => apart_none k h), (apart_none b1), (apart_none b6), gA_none⟩ ?_
  rintro n12 a w11 ⟨k, Sx, sc, os, rfl, fr, hF, hV, B4, B9, Oo, hk, hos, hok, ap2_A_Sx, ap_Sx_b1, ap_Sx_b6, gA_Sx⟩
  refine wp_seq ?_
  refine wp_seq ?_
  refine wp_region_lit ?_  -- region 3
  refine fx_val (v := .int .i64 ((k : Nat) : Int)) fr rfl rfl (by first | decide | simp) (x_move rfl (fr.ev rfl)) ?_
  clear fr a; intro a fr
  refine fx_val (v := .pointer (some ⟨b1, 2, none⟩)) fr rfl rfl (by first | decide | simp) (x_fieldAddr fo28_2 rfl (fr.ev rfl) rfl) ?_
  clear fr a; intro a fr
  refine fx_val (v := .slice A L.length cap) fr rfl rfl (by first | decide | simp) (x_load1 pl26 rfl (fr.ev rfl) (B4.cell 2 rfl)) ?_
  clear fr a; intro a fr
  refine fx_val (v := .int .i64 ((L.length : Nat) : Int)) fr rfl rfl (by first | decide | simp) (x_len Try.underlying26 rfl (fr.ev rfl)) ?_
  clear fr a; intro a fr
  refine fx_val (v := .bool (decide (((k : Nat) : Int) < ((L.length : Nat) : Int)))) fr rfl rfl (by first | decide | simp) (x_lss rfl (fr.ev rfl) (fr.ev rfl) rfl) ?_
  clear fr a; intro a fr
  refine wpList_nil ?_
  refine fx_next ?_
  refine fx_cond fr rfl (fun hc13 => ?_) (fun hc13 => ?_)
  · skip
    have hc13 := of_decide_eq_true hc13
    refine wp_skip ?_
    refine fx_next ?_
    refine wp_seq ?_
    refine wp_block ?_
    refine wp_seq ?_
    refine wp_region_lit ?_  -- region 5
    refine fx_val (v := .pointer (some ⟨b1, 2, none⟩)) fr rfl rfl (by first | decide | simp) (x_fieldAddr fo28_2 rfl (fr.ev rfl) rfl) ?_
    clear fr a; intro a fr
    refine fx_val (v := .slice A L.length cap) fr rfl rfl (by first | decide | simp) (x_load1 pl26 rfl (fr.ev rfl) (B4.cell 2 rfl)) ?_
    clear fr a; intro a fr
    refine fx_val (v := .int .i64 ((k : Nat) : Int)) fr rfl rfl (by first | decide | simp) (x_move rfl (fr.ev rfl)) ?_
    clear fr a; intro a fr
    obtain ⟨g14, o15, hA16⟩ := (hV).some_ (by omega)
    refine fx_val (v := .pointer (some ⟨g14, o15 + k * 18, none⟩)) fr rfl rfl (by first | decide | simp) (x_indexV Try.underlying26 sz39 rfl (fr.ev rfl) hA16 (fr.ev rfl) (by omega) rfl) ?_
    clear fr a; intro a fr
    refine fx_val (v := .pointer (some ⟨g14, o15 + k * 18, none⟩)) fr rfl rfl (by first | decide | simp) (x_fieldAddr fo39_0 rfl (fr.ev rfl) rfl) ?_
    clear fr a; intro a fr
    refine fx_val (v := .int .u32 ((L.getD k ln0).num)) fr rfl rfl (by first | decide | simp) (x_load1 pl33 rfl (fr.ev rfl) (range_cell ((hV).elem hA16 k ln0 (by omega)) 0 rfl rfl)) ?_
    clear fr a; intro a fr
    refine fx_val (v := .int .u32 number) fr rfl rfl (by first | decide | simp) (x_move rfl (fr.ev rfl)) ?_
    clear fr a; intro a fr
    refine fx_val (v := .bool (decide ((L.getD k ln0).num ≠ number))) fr rfl rfl (by first | decide | simp) (x_neq rfl (fr.ev rfl) (fr.ev rfl) rfl) ?_
    clear fr a; intro a fr
    refine wpList_nil ?_
    refine fx_next ?_
    refine fx_cond fr rfl (fun hc17 => ?_) (fun hc17 => ?_)
    · skip
      have hc17 := of_decide_eq_true hc17
      refine wp_region_lit ?_  -- region 6
      refine fx_val (v := .slice Sx os.length sc) fr rfl rfl (by first | decide | simp) (x_move rfl (fr.ev rfl)) ?_
      clear fr a; intro a fr
      refine fx_val (v := .pointer (some ⟨b1, 2, none⟩)) fr rfl rfl (by first | decide | simp) (x_fieldAddr fo28_2 rfl (fr.ev rfl) rfl) ?_
      clear fr a; intro a fr
      refine fx_val (v := .slice A L.length cap) fr rfl rfl (by first | decide | simp) (x_load1 pl26 rfl (fr.ev rfl) (B4.cell 2 rfl)) ?_
      clear fr a; intro a fr
      refine fx_val (v := .int .i64 ((k : Nat) : Int)) fr rfl rfl (by first | decide | simp) (x_move rfl (fr.ev rfl)) ?_
      clear fr a; intro a fr
      refine fx_val (v := .pointer (some ⟨g14, o15 + k * 18, none⟩)) fr rfl rfl (by first | decide | simp) (x_indexV Try.underlying26 sz39 rfl (fr.ev rfl) hA16 (fr.ev rfl) (by omega) rfl) ?_
      clear fr a; intro a fr
      refine fx_val (v := .agg (lnE.arr (L.getD k ln0))) fr rfl rfl (by first | decide | simp) (x_loadE (E := lnE) ag39 rfl rfl (fr.ev rfl) ((hV).elem hA16 k ln0 (by omega))) ?_
      clear fr a; intro a fr
      refine fx_build1 (E := lnE) (p := (L.getD k ln0)) elLn (by decide) fr rfl rfl (by decide) rfl (fr.ev rfl) ?_
      clear fr a
      intro A18 w19 hN20 O21 hA22 a fr
      have ap2_A_A18 : Apart2 A A18 := (new_apart2 hA22 fun _ hg => hV.lt hg).symm
      have ap_A18_b1 : Apart A18 b1 := new_apart hA22 B4.lt
      have ap_A18_b6 : Apart A18 b6 := new_apart hA22 B9.lt
      have ap2_Sx_A18 : Apart2 Sx A18 := (new_apart2 hA22 fun _ hg => Oo.lt hg).symm
      have gA_A18 := gA_new hF hA22
      replace hV := hV.new hN20
      replace B4 := B4.new hN20
      replace B9 := B9.new hN20
      replace Oo := Oo.new hN20
      replace hF := hF.trNew hN20
      refine fx_append (E := lnE) (l := os) (l' := [(L.getD k ln0)]) elLn fr rfl rfl (by decide) rfl (fr.ev rfl) (fr.ev rfl) (by first | rfl | (simp; done) | (simp; omega)) (by first | rfl | (simp; done) | (simp; omega)) Oo O21.view (by first | omega | (simp only [List.length_append, List.length_cons, List.length_nil, List.nil_append]; omega) | (simp; omega)) (by unfold maxLen; first | omega | (simp; omega)) ?_
      clear fr a
      intro A23 cap24 w25 O26 hO27 mv28 a fr
      have ap2_A23_A : Apart2 A23 A := moved_apart2 mv28 ap2_A_Sx.symm fun _ hg => hV.lt hg
      have ap_A23_b1 : Apart A23 b1 := moved_apart mv28 ap_Sx_b1 B4.lt
      have ap_A23_b6 : Apart A23 b6 := moved_apart mv28 ap_Sx_b6 B9.lt
      have ap2_A23_A18 : Apart2 A23 A18 := moved_apart2 mv28 ap2_Sx_A18 fun _ hg => O21.lt hg
      have gA_A23 := gA_moved hF mv28 gA_Sx
      replace hV := hV.only hO27 (fun g h1 h2 => ap2_A_Sx g h1 h2)
      replace B4 := B4.only hO27 ap_Sx_b1
      replace B9 := B9.only hO27 ap_Sx_b6
      replace O21 := O21.only hO27 (fun g h1 h2 => ap2_Sx_A18.symm g h1 h2)
      replace hF := hF.locA hO27 gA_Sx
      clear Oo
      refine fx_val (v := .slice A23 ((os ++ ([(L.getD k ln0)])).length) cap24) fr rfl rfl (by first | decide | simp) (x_assign rfl (fr.ev rfl)) ?_
      clear fr a; intro a fr
      refine wpList_nil ?_
      refine fx_blk ?_
      refine fx_next ?_
      refine wp_region_lit ?_  -- region 4
      refine fx_val (v := .int .i64 ((k : Nat) : Int)) fr rfl rfl (by first | decide | simp) (x_move rfl (fr.ev rfl)) ?_
      clear fr a; intro a fr
      refine fx_val (v := .int .i64 ((k + 1 : Nat) : Int)) fr rfl rfl (by first | decide | simp) (x_add rfl (fr.ev rfl) rfl (i64w (r := ((k + 1 : Nat) : Int)) (by omega) (by omega))) ?_
      clear fr a; intro a fr
      refine fx_val (v := .int .i64 ((k + 1 : Nat) : Int)) fr rfl rfl (by first | decide | simp) (x_assign rfl (fr.ev rfl)) ?_
      clear fr a; intro a fr
      refine wpList_nil ?_
      refine fx_next ?_
      exact ⟨_, by omega, (k + 1), A23, cap24, (os ++ ([(L.getD k ln0)])), rfl, fr.sub ⟨rfl, rfl, rfl, rfl, rfl, trivial⟩, hF, hV, B4, B9, O26, by omega, (by rw [selF_yes (p := fun x => !isNum number x) (by omega) (by simpa [isNum] using hc17), hos]), (by simp; omega), ap2_A23_A.symm, ap_A23_b1, ap_A23_b6, gA_A23⟩
    · skip
      have hc17 := of_decide_eq_false hc17
      refine wp_skip ?_
      refine fx_blk ?_
      refine fx_next ?_
      refine wp_region_lit ?_  -- region 4
      refine fx_val (v := .int .i64 ((k : Nat) : Int)) fr rfl rfl (by first | decide | simp) (x_move rfl (fr.ev rfl)) ?_
      clear fr a; intro a fr
      refine fx_val (v := .int .i64 ((k + 1 : Nat) : Int)) fr rfl rfl (by first | decide | simp) (x_add rfl (fr.ev rfl) rfl (i64w (r := ((k + 1 : Nat) : Int)) (by omega) (by omega))) ?_
      clear fr a; intro a fr
      refine fx_val (v := .int .i64 ((k + 1 : Nat) : Int)) fr rfl rfl (by first | decide | simp) (x_assign rfl (fr.ev rfl)) ?_
      clear fr a; intro a fr
      refine wpList_nil ?_
      refine fx_next ?_
      exact ⟨_, by omega, (k + 1), Sx, sc, os, rfl, fr.sub ⟨rfl, rfl, rfl, rfl, rfl, trivial⟩, hF, hV, B4, B9, Oo, by omega, (by rw [selF_no (p := fun x => !isNum number x) (by omega) (by simpa [isNum] using hc17), hos]), by omega, ap2_A_Sx, ap_Sx_b1, ap_Sx_b6, gA_Sx⟩
  · skip
    have hc13 := of_decide_eq_false hc13
    refine wp_exit ?_
    refine fx_xt ?_
    refine fx_xt ?_
    refine fx_xx ?_
    refine fx_next ?_
    refine wp_seq ?_
    refine wp_region_lit ?_  -- region 7
    refine fx_val (v := .slice Sx os.length sc) fr rfl rfl (by first | decide | simp) (x_move rfl (fr.ev rfl)) ?_
    clear fr a; intro a fr
    refine fx_val (v := .pointer (some ⟨b1, 2, none⟩)) fr rfl rfl (by first | decide | simp) (x_fieldAddr fo28_2 rfl (fr.ev rfl) rfl) ?_
    clear fr a; intro a fr
    refine fx_store1 sz26 rfl rfl rfl (fr.ev rfl) (fr.ev rfl) rfl B4 (show 2 < 3 by decide) (cs' := #[.int .i64 ((n : Nat) : Int), .int .i64 ways, .slice Sx os.length sc]) rfl fun w29 hO30 hBq => ?_
    replace hV := hV.only hO30 (Apart.ne1 ap_A_b1)
    replace B9 := B9.only hO30 (by first | exact ne_b6_b1 | exact ne_b1_b6.symm | (show ¬ b6 = b1; omega))
    replace Oo := Oo.only hO30 (Apart.ne1 ap_Sx_b1)
    replace hF := hF.loc hO30 (.inr g_b1)
    replace B4 := hBq
    clear hBq
    refine wpList_nil ?_
    refine fx_next ?_
    refine wp_seq ?_
    refine wp_region_lit ?_  -- region 8
    refine fx_val (v := .agg (#[.int .i64 ((n : Nat) : Int), .int .i64 ways, .slice Sx os.length sc])) fr rfl rfl (by first | decide | simp) (x_loadS ag28 rfl (fr.ev rfl) rfl B4.range) ?_
    clear fr a; intro a fr
    refine fx_storeS sz28 rfl rfl rfl (fr.ev rfl) (fr.ev rfl) (by simp [Value.oneCell']) B9 rfl rfl fun w31 hO32 hBq => ?_
    replace hV := hV.only hO32 (Apart.ne1 ap_A_b6)
    replace Oo := Oo.only hO32 (Apart.ne1 ap_Sx_b6)
    replace B4 := B4.only hO32 (by first | exact ne_b1_b6 | exact ne_b6_b1.symm | (show ¬ b1 = b6; omega))
    replace hF := hF.loc hO32 (.inr g_b6)
    replace B9 := hBq
    clear hBq
    refine wpList_nil ?_
    refine fx_next ?_
    refine wp_ret ?_
    refine fx_ret fr [.cell 4 28] [.agg (#[.int .i64 ((n : Nat) : Int), .int .i64 ways, .slice Sx os.length sc])] rfl ⟨⟨_, rfl, x_loadV ag28 rfl B9.range⟩, trivial⟩ rfl ?_
    obtain rfl : k = L.length := by omega
    rw [List.take_of_length_le (Nat.le_refl _)] at hos
    have hos : os = dropL L number := hos
    subst hos
    exact ⟨_, rfl, Sx, sc, rfl, Oo.view, fun g hg => .inr ((gA_Sx g hg).resolve_left id), hF⟩
set_option maxRecDepth 100000 in
set_option maxHeartbeats 4000000 in
theorem rall_c {w : World} {A : Option Addr} {cap n : Nat} {ways : Int} {L : List Ln} (hV : View lnE w A cap L) (hn : 0 < n ∧ n ≤ 64) (hl : L.length ≤ 100000) : Calls Try.prog 30 #[.agg (#[.int .i64 ((n : Nat) : Int), .int .i64 ways, .slice A L.length cap])] w (Ret fun v w' => ∃ A' cap', v = .slice A' (allL n L).length cap' ∧ Own lnE w' A' cap' (allL n L) ∧ (∀ g, inA A' g → w.heap.size ≤ g) ∧ New w w') := by
  have hVl := hV.len
  unfold maxLen at hVl
  have hF := Only.refl (fun _ => False) w
  refine fx_enter Try.func30 rfl (N := (17, [])) (T := [(0, .agg (#[.int .i64 ((n : Nat) : Int), .int .i64 ways, .slice A L.length cap]))]) rfl (show 1 ≤ 17 by decide) ⟨rfl, trivial⟩ fun a fr => ?_
  refine wp_seq ?_
  refine wp_region_lit ?_  -- region 0
  refine fx_new fr rfl rfl (by first | decide | simp) (x_box (cs := #[.int .i64 ((n : Nat) : Int), .int .i64 ways, .slice A L.length cap]) rfl (fr.ev rfl) rfl) ?_
  clear fr a
  intro b1 w2 hN3 B4 hb5 a fr
  have ap_A_b1 : Apart A b1 := hV.apart hb5
  have g_b1 := Nat.le_trans hF.size hb5
  replace hV := hV.new hN3
  replace hF := hF.trNew hN3
  refine fx_val (v := .slice none 0 0) fr rfl rfl (by first | decide | simp) (x_assign rfl rfl) ?_
  clear fr a; intro a fr
  refine wpList_nil ?_
  refine fx_next ?_
  refine wp_seq ?_
  refine wp_region_lit ?_  -- region 1
  refine fx_val (v := .slice none 0 0) fr rfl rfl (by first | decide | simp) (x_assign rfl rfl) ?_
  clear fr a; intro a fr
  refine wpList_nil ?_
  refine fx_next ?_
  refine wp_seq ?_
  refine wp_seq ?_
  refine wp_region_lit ?_  -- region 2
  refine fx_val (v := .int .i64 0) fr rfl rfl (by first | decide | simp) (x_assign rfl rfl) ?_
  clear fr a; intro a fr
  refine wpList_nil ?_
  refine fx_next ?_
  refine wp_block ?_
  refine fx_loop (fun nM a wL => ∃ i : Nat, ∃ Sx : Option Addr, ∃ sc : Nat, nM = n - i ∧ Fr (17, []) [(1, .pointer (some ⟨b1, 0, none⟩)), (3, .slice Sx ((allP n L i).length) sc), (4, .int .i64 ((i : Nat) : Int))] a ∧ Only (fun _ => False) w wL ∧ View lnE wL A cap L ∧ Blk wL b1 28 (#[.int .i64 ((n : Nat) : Int), .int .i64 ways, .slice A L.length cap]) ∧ Own lnE wL Sx sc (allP n L i) ∧ i ≤ n ∧ (Apart2 A Sx) ∧ (Apart Sx b1) ∧ (∀ g, inA Sx g → (fun _ => False) g ∨ w.heap.size ≤ g)) (n0 := _) ⟨0, none, 0, rfl, fr.sub ⟨rfl, rfl, rfl, trivial⟩, hF, hV, B4, Own.nil, by omega, (fun k _ h => apart_none k h), (apart_none b1), gA_none⟩ ?_
  rintro n7 a w6 ⟨i, Sx, sc, rfl, fr, hF, hV, B4, Oo, hi, ap2_A_Sx, ap_Sx_b1, gA_Sx⟩
  have hpl := (allP_prefix (L := L) (show i ≤ n by omega)).length_le
  have hal := allL_len hn.1 L
  refine wp_seq ?_
  refine wp_seq ?_
  refine wp_region_lit ?_  -- region 3
  refine fx_val (v := .int .i64 ((i : Nat) : Int)) fr rfl rfl (by first | decide | simp) (x_move rfl (fr.ev rfl)) ?_
  clear fr a; intro a fr
  refine fx_val (v := .pointer (some ⟨b1, 0, none⟩)) fr rfl rfl (by first | decide | simp) (x_fieldAddr fo28_0 rfl (fr.ev rfl) rfl) ?_
  clear fr a; intro a fr
  refine fx_val (v := .int .i64 ((n : Nat) : Int)) fr rfl rfl (by first | decide | simp) (x_load1 pl3 rfl (fr.ev rfl) (B4.cell 0 rfl)) ?_
  clear fr a; intro a fr
  refine fx_val (v := .bool (decide (((i : Nat) : Int) < ((n : Nat) : Int)))) fr rfl rfl (by first | decide | simp) (x_lss rfl (fr.ev rfl) (fr.ev rfl) rfl) ?_
  clear fr a; intro a fr
  refine wpList_nil ?_
  refine fx_next ?_
  refine fx_cond fr rfl (fun hc8 => ?_) (fun hc8 => ?_)
  · skip
    have hc8 := of_decide_eq_true hc8
    refine wp_skip ?_
    refine fx_next ?_
    refine wp_seq ?_
    refine wp_block ?_
    have hpl2 := (allP_prefix (L := L) (show i + 1 ≤ n by omega)).length_le
    rw [allP_succ, List.length_append] at hpl2
    refine wp_region_lit ?_  -- region 5
    refine fx_val (v := .slice Sx ((allP n L i).length) sc) fr rfl rfl (by first | decide | simp) (x_move rfl (fr.ev rfl)) ?_
    clear fr a; intro a fr
    refine fx_val (v := .agg (#[.int .i64 ((n : Nat) : Int), .int .i64 ways, .slice A L.length cap])) fr rfl rfl (by first | decide | simp) (x_loadS ag28 rfl (fr.ev rfl) rfl B4.range) ?_
    clear fr a; intro a fr
    refine fx_val (v := .int .i64 ((i : Nat) : Int)) fr rfl rfl (by first | decide | simp) (x_move rfl (fr.ev rfl)) ?_
    clear fr a; intro a fr
    refine fx_call fr rfl rfl (by first | decide | simp) (x_call (vs := [.agg (#[.int .i64 ((n : Nat) : Int), .int .i64 ways, .slice A L.length cap]), .int .i64 ((i : Nat) : Int)]) rfl rfl ⟨(fr.ev rfl), (fr.ev rfl), trivial⟩ Try.func33 nm33 rfl) (rof_c i (ways := ways) (hV) (by omega) (by omega)) ?_
    clear fr a
    rintro v w13 ⟨A9, cap10, rfl, O11, hA12, hN14⟩ a fr
    have ap2_A_A9 : Apart2 A A9 := (new_apart2 hA12 fun _ hg => hV.lt hg).symm
    have ap_A9_b1 : Apart A9 b1 := new_apart hA12 B4.lt
    have ap2_Sx_A9 : Apart2 Sx A9 := (new_apart2 hA12 fun _ hg => Oo.lt hg).symm
    have gA_A9 := gA_new hF hA12
    replace hV := hV.new hN14
    replace B4 := B4.new hN14
    replace Oo := Oo.new hN14
    replace hF := hF.trNew hN14
    refine fx_append (E := lnE) (l := allP n L i) (l' := ofs n L i) elLn fr rfl rfl (by decide) rfl (fr.ev rfl) (fr.ev rfl) (by first | rfl | (simp; done) | (simp; omega)) (by first | rfl | (simp; done) | (simp; omega)) Oo O11.view (by first | omega | (simp only [List.length_append, List.length_cons, List.length_nil, List.nil_append]; omega) | (simp; omega)) (by unfold maxLen; first | omega | (simp; omega)) ?_
    clear fr a
    intro A15 cap16 w17 O18 hO19 mv20 a fr
    have ap2_A15_A : Apart2 A15 A := moved_apart2 mv20 ap2_A_Sx.symm fun _ hg => hV.lt hg
    have ap_A15_b1 : Apart A15 b1 := moved_apart mv20 ap_Sx_b1 B4.lt
    have ap2_A15_A9 : Apart2 A15 A9 := moved_apart2 mv20 ap2_Sx_A9 fun _ hg => O11.lt hg
    have gA_A15 := gA_moved hF mv20 gA_Sx
    replace hV := hV.only hO19 (fun g h1 h2 => ap2_A_Sx g h1 h2)
    replace B4 := B4.only hO19 ap_Sx_b1
    replace O11 := O11.only hO19 (fun g h1 h2 => ap2_Sx_A9.symm g h1 h2)
    replace hF := hF.locA hO19 gA_Sx
    clear Oo
    refine fx_val (v := .slice A15 (((allP n L i) ++ (ofs n L i)).length) cap16) fr rfl rfl (by first | decide | simp) (x_assign rfl (fr.ev rfl)) ?_
    clear fr a; intro a fr
    refine wpList_nil ?_
    refine fx_blk ?_
    refine fx_next ?_
    refine wp_region_lit ?_  -- region 4
    refine fx_val (v := .int .i64 ((i : Nat) : Int)) fr rfl rfl (by first | decide | simp) (x_move rfl (fr.ev rfl)) ?_
    clear fr a; intro a fr
    refine fx_val (v := .int .i64 ((i + 1 : Nat) : Int)) fr rfl rfl (by first | decide | simp) (x_add rfl (fr.ev rfl) rfl (i64w (r := ((i + 1 : Nat) : Int)) (by omega) (by omega))) ?_
    clear fr a; intro a fr
    refine fx_val (v := .int .i64 ((i + 1 : Nat) : Int)) fr rfl rfl (by first | decide | simp) (x_assign rfl (fr.ev rfl)) ?_
    clear fr a; intro a fr
    refine wpList_nil ?_
    refine fx_next ?_
    rw [show (allP n L i ++ ofs n L i) = allP n L (i + 1) from allP_succ.symm] at fr
    exact ⟨_, by omega, (i + 1), A15, cap16, rfl, fr.sub ⟨rfl, rfl, rfl, trivial⟩, hF, hV, B4, (by rw [allP_succ]; exact O18), by omega, ap2_A15_A.symm, ap_A15_b1, gA_A15⟩
  · skip
    have hc8 := of_decide_eq_false hc8
    refine wp_exit ?_
    refine fx_xt ?_
    refine fx_xt ?_
    refine fx_xx ?_
    refine fx_next ?_
    refine wp_seq ?_
    refine wp_region_lit ?_  -- region 6
    refine fx_val (v := .slice Sx ((allP n L i).length) sc) fr rfl rfl (by first | decide | simp) (x_move rfl (fr.ev rfl)) ?_
    clear fr a; intro a fr
    refine fx_val (v := .slice Sx ((allP n L i).length) sc) fr rfl rfl (by first | decide | simp) (x_assign rfl (fr.ev rfl)) ?_
    clear fr a; intro a fr
    refine wpList_nil ?_
    refine fx_next ?_
    refine wp_ret ?_
    refine fx_ret fr [.tmp 2] [.slice Sx ((allP n L i).length) sc] rfl ⟨rfl, trivial⟩ rfl ?_
    obtain rfl : i = n := by omega
    exact ⟨_, rfl, Sx, sc, rfl, Oo, fun g hg => (gA_Sx g hg).resolve_left id, hF⟩
set_option maxRecDepth 100000 in
set_option maxHeartbeats 4000000 in
theorem rput_c (l : Ln) {w : World} {A : Option Addr} {cap n : Nat} {ways : Int} {L : List Ln} (hV : View lnE w A cap L) (hn : 0 < n ∧ n ≤ 64) (hl : L.length ≤ 100000) (hw : 1 ≤ ways) : Calls Try.prog 19 #[.agg (#[.int .i64 ((n : Nat) : Int), .int .i64 ways, .slice A L.length cap]), .agg (lnE.arr l)] w (Ret fun v w' => ∃ A' cap', v = .tuple #[.agg #[.int .i64 ((n : Nat) : Int), .int .i64 ways, .slice A' (putL n ways L l).length cap'], .int .i64 (putE n ways L l)] ∧ View lnE w' A' cap' (putL n ways L l) ∧ (∀ g, inA A' g → inA A g ∨ w.heap.size ≤ g) ∧ New w w') := by
  have hVl := hV.len
  unfold maxLen at hVl
  have hnum := l.hn
  have hF := Only.refl (fun _ => False) w
  refine fx_enter Try.func19 rfl (N := (53, [])) (T := [(0, .agg (#[.int .i64 ((n : Nat) : Int), .int .i64 ways, .slice A L.length cap])), (1, .agg (lnE.arr l))]) rfl (show 2 ≤ 53 by decide) ⟨rfl, rfl, trivial⟩ fun a fr => ?_
  refine wp_seq ?_
  refine wp_region_lit ?_  -- region 0
  refine fx_new fr rfl rfl (by first | decide | simp) (x_box (cs := #[.int .i64 ((n : Nat) : Int), .int .i64 ways, .slice A L.length cap]) rfl (fr.ev rfl) rfl) ?_
  clear fr a
  intro b1 w2 hN3 B4 hb5 a fr
  have ap_A_b1 : Apart A b1 := hV.apart hb5
  have g_b1 := Nat.le_trans hF.size hb5
  replace hV := hV.new hN3
  replace hF := hF.trNew hN3
  refine fx_new fr rfl rfl (by first | decide | simp) (x_box (cs := lnE.arr l) rfl (fr.ev rfl) rfl) ?_
  clear fr a
  intro b6 w7 hN8 B9 hb10 a fr
  have ap_A_b6 : Apart A b6 := hV.apart hb10
  have ne_b1_b6 : NE b1 b6 := NE.mk (Nat.lt_of_lt_of_le B4.lt hb10)
  have g_b6 := Nat.le_trans hF.size hb10
  replace hV := hV.new hN8
  replace B4 := B4.new hN8
  replace hF := hF.trNew hN8
  refine fx_new fr rfl rfl (by first | decide | simp) (x_alloc (z := .agg (#[.int .i64 0, .int .i64 0, .slice none 0 0])) (cs := #[.int .i64 0, .int .i64 0, .slice none 0 0]) rfl (by kernel_rfl) rfl) ?_
  clear fr a
  intro b11 w12 hN13 B14 hb15 a fr
  have ap_A_b11 : Apart A b11 := hV.apart hb15
  have ne_b1_b11 : NE b1 b11 := NE.mk (Nat.lt_of_lt_of_le B4.lt hb15)
  have ne_b6_b11 : NE b6 b11 := NE.mk (Nat.lt_of_lt_of_le B9.lt hb15)
  have g_b11 := Nat.le_trans hF.size hb15
  replace hV := hV.new hN13
  replace B4 := B4.new hN13
  replace B9 := B9.new hN13
  replace hF := hF.trNew hN13
  refine fx_val (v := .int .i64 0) fr rfl rfl (by first | decide | simp) (x_assign rfl rfl) ?_
  clear fr a; intro a fr
  refine wpList_nil ?_
  refine fx_next ?_
  refine wp_seq ?_
  refine wp_seq ?_
  refine wp_region_lit ?_  -- region 1
  refine fx_val (v := .pointer (some ⟨b6, 1, none⟩)) fr rfl rfl (by first | decide | simp) (x_fieldAddr fo39_1 rfl (fr.ev rfl) rfl) ?_
  clear fr a; intro a fr
  refine fx_val (v := .int .i64 l.state) fr rfl rfl (by first | decide | simp) (x_load1 pl36 rfl (fr.ev rfl) (B9.cell 1 rfl)) ?_
  clear fr a; intro a fr
  refine fx_val (v := .bool (decide (l.state < 1))) fr rfl rfl (by first | decide | simp) (x_lss rfl (fr.ev rfl) rfl rfl) ?_
  clear fr a; intro a fr
  refine fx_val (v := .bool (decide (l.state < 1))) fr rfl rfl (by first | decide | simp) (x_move rfl (fr.ev rfl)) ?_
  clear fr a; intro a fr
  refine fx_may (g := !(decide (l.state < 1))) (v := .pointer (some ⟨b6, 1, none⟩)) fr rfl rfl rfl (by simp) rfl (by first | decide | simp) (fun hg => x_fieldAddr fo39_1 rfl (fr.ev rfl) rfl) ?_
  clear fr a; intro a fr
  refine fx_may (g := !(decide (l.state < 1))) (v := .int .i64 l.state) fr rfl rfl rfl (by simp) rfl (by first | decide | simp) (fun hg => x_load1 pl36 rfl ((fr.ev rfl).trans (onlyIf_t hg)) (B9.cell 1 rfl)) ?_
  clear fr a; intro a fr
  refine fx_may (g := !(decide (l.state < 1))) (v := .bool (decide (3 < l.state))) fr rfl rfl rfl (by simp) rfl (by first | decide | simp) (fun hg => x_gtr rfl ((fr.ev rfl).trans (onlyIf_t hg)) rfl rfl) ?_
  clear fr a; intro a fr
  refine fx_val (v := .bool ((decide (l.state < 1)) || (decide (3 < l.state)))) fr rfl rfl (by first | decide | simp) (x_pick_or rfl (fr.ev rfl) (fun _ => rfl) (fun hb => ((fr.ev rfl)).trans (onlyIf_t (by simp_all))) rfl) ?_
  clear fr a; intro a fr
  refine wpList_nil ?_
  refine fx_next ?_
  refine fx_cond fr rfl (fun hc16 => ?_) (fun hc16 => ?_)
  · skip
    have hc16s := hc16
    try simp at hc16s
    refine wp_seq ?_
    refine wp_region_lit ?_  -- region 2
    refine fx_val (v := .agg (#[.int .i64 ((n : Nat) : Int), .int .i64 ways, .slice A L.length cap])) fr rfl rfl (by first | decide | simp) (x_loadS ag28 rfl (fr.ev rfl) rfl B4.range) ?_
    clear fr a; intro a fr
    refine fx_storeS sz28 rfl rfl rfl (fr.ev rfl) (fr.ev rfl) (by simp [Value.oneCell']) B14 rfl rfl fun w17 hO18 hBq => ?_
    replace hV := hV.only hO18 (Apart.ne1 ap_A_b11)
    replace B4 := B4.only hO18 (by first | exact ne_b1_b11 | exact ne_b11_b1.symm | (show ¬ b1 = b11; omega))
    replace B9 := B9.only hO18 (by first | exact ne_b6_b11 | exact ne_b11_b6.symm | (show ¬ b6 = b11; omega))
    replace hF := hF.loc hO18 (.inr g_b11)
    replace B14 := hBq
    clear hBq
    refine fx_val (v := .int .i64 2) fr rfl rfl (by first | decide | simp) (x_assign rfl rfl) ?_
    clear fr a; intro a fr
    refine wpList_nil ?_
    refine fx_next ?_
    refine wp_ret ?_
    refine fx_rt ?_
    refine fx_ret fr [.cell 4 28, .tmp 5] [.agg (#[.int .i64 ((n : Nat) : Int), .int .i64 ways, .slice A L.length cap]), .int .i64 2] rfl ⟨⟨_, rfl, x_loadV ag28 rfl B14.range⟩, rfl, trivial⟩ rfl ?_
    have ho : okS l = false := by unfold okS; simp; omega
    have e1 : putE n ways L l = 2 := by unfold putE; rw [if_pos ho]
    have e2 : putL n ways L l = L := by unfold putL; rw [e1]; rfl
    rw [e1, e2]
    exact ⟨_, rfl, A, cap, rfl, hV, fun g hg => .inl hg, hF⟩
  · skip
    have hc16s := hc16
    try simp at hc16s
    refine wp_skip ?_
    refine fx_next ?_
    refine wp_seq ?_
    refine wp_region_lit ?_  -- region 3
    refine fx_val (v := .agg (#[.int .i64 ((n : Nat) : Int), .int .i64 ways, .slice A L.length cap])) fr rfl rfl (by first | decide | simp) (x_loadS ag28 rfl (fr.ev rfl) rfl B4.range) ?_
    clear fr a; intro a fr
    refine fx_val (v := .pointer (some ⟨b6, 0, none⟩)) fr rfl rfl (by first | decide | simp) (x_fieldAddr fo39_0 rfl (fr.ev rfl) rfl) ?_
    clear fr a; intro a fr
    refine fx_val (v := .int .u32 l.num) fr rfl rfl (by first | decide | simp) (x_load1 pl33 rfl (fr.ev rfl) (B9.cell 0 rfl)) ?_
    clear fr a; intro a fr
    refine fx_call fr rfl rfl (by first | decide | simp) (x_call (vs := [.agg (#[.int .i64 ((n : Nat) : Int), .int .i64 ways, .slice A L.length cap]), .int .u32 l.num]) rfl rfl ⟨(fr.ev rfl), (fr.ev rfl), trivial⟩ Try.func17 nm17 rfl) (rfind_c l.num (ways := ways) (hV) (by omega)) ?_
    clear fr a
    rintro v w19 ⟨rfl, hN20⟩ a fr
    replace hV := hV.new hN20
    replace B4 := B4.new hN20
    replace B9 := B9.new hN20
    replace B14 := B14.new hN20
    replace hF := hF.trNew hN20
    refine fx_val (v := .int .i64 (fndI L l.num)) fr rfl rfl (by first | decide | simp) (x_assign rfl (fr.ev rfl)) ?_
    clear fr a; intro a fr
    refine wpList_nil ?_
    refine fx_next ?_
    refine wp_seq ?_
    refine wp_seq ?_
    rcases fnd_spec L l.num with ⟨hf, hno⟩ | ⟨i, hf, hi, hin, hall⟩
    · skip
      have hg : getN L l.num = none := fnd_none ⟨hf, hno⟩
      rw [hf] at fr
      refine fx_held (n := 14) (fun w => View lnE w A cap L ∧ Blk w b1 28 (#[.int .i64 ((n : Nat) : Int), .int .i64 ways, .slice A L.length cap]) ∧ Blk w b6 39 (lnE.arr l) ∧ Blk w b11 28 (#[.int .i64 0, .int .i64 0, .slice none 0 0]) ∧ True) (by kernel_rfl) rfl ?_  -- region 4
      intro w21 hN22
      replace hV := hV.new hN22
      replace B4 := B4.new hN22
      replace B9 := B9.new hN22
      replace B14 := B14.new hN22
      replace hF := hF.trNew hN22
      refine fx_take (i := 0) (v := .int .i64 (-1)) fr rfl (by kernel_rfl) rfl rfl (by first | decide | simp) (fun _ _ _ h => h) (fun _ ⟨hV, B4, B9, B14, _⟩ => x_move rfl (fr.ev rfl)) ⟨hV, B4, B9, B14, trivial⟩ ?_
      clear fr a; intro a fr
      refine fx_take (i := 1) (v := .bool true) fr rfl (by kernel_rfl) rfl rfl (by first | decide | simp) (fun _ _ _ h => h) (fun _ ⟨hV, B4, B9, B14, _⟩ => x_lss rfl (fr.ev rfl) rfl rfl) ⟨hV, B4, B9, B14, trivial⟩ ?_
      clear fr a; intro a fr
      refine fx_take (i := 2) (v := .bool true) fr rfl (by kernel_rfl) rfl rfl (by first | decide | simp) (fun _ _ _ h => h) (fun _ ⟨hV, B4, B9, B14, _⟩ => x_move rfl (fr.ev rfl)) ⟨hV, B4, B9, B14, trivial⟩ ?_
      clear fr a; intro a fr
      refine fx_take (i := 3) (v := .agg (#[.int .i64 ((n : Nat) : Int), .int .i64 ways, .slice A L.length cap])) fr rfl (by kernel_rfl) (fr.want rfl rfl rfl) rfl (by first | decide | simp) (fun _ _ _ h => h) (fun _ ⟨hV, B4, B9, B14, _⟩ => x_loadS ag28 rfl (fr.ev rfl) rfl B4.range) ⟨hV, B4, B9, B14, trivial⟩ ?_
      clear fr a; intro a fr
      refine fx_take (i := 4) (v := .agg (#[.int .i64 ((n : Nat) : Int), .int .i64 ways, .slice A L.length cap])) fr rfl (by kernel_rfl) (fr.want rfl rfl rfl) rfl (by first | decide | simp) (fun _ _ _ h => h) (fun _ ⟨hV, B4, B9, B14, _⟩ => x_loadS ag28 rfl (fr.ev rfl) rfl B4.range) ⟨hV, B4, B9, B14, trivial⟩ ?_
      clear fr a; intro a fr
      refine fx_take (i := 5) (v := .pointer (some ⟨b6, 0, none⟩)) fr rfl (by kernel_rfl) (fr.want rfl rfl rfl) rfl (by first | decide | simp) (fun _ _ _ h => h) (fun _ ⟨hV, B4, B9, B14, _⟩ => x_fieldAddr fo39_0 rfl (fr.ev rfl) rfl) ⟨hV, B4, B9, B14, trivial⟩ ?_
      clear fr a; intro a fr
      refine fx_take (i := 6) (v := .int .u32 l.num) fr rfl (by kernel_rfl) (fr.want rfl rfl rfl) rfl (by first | decide | simp) (fun _ _ _ h => h) (fun _ ⟨hV, B4, B9, B14, _⟩ => x_load1 pl33 rfl (fr.ev rfl) (B9.cell 0 rfl)) ⟨hV, B4, B9, B14, trivial⟩ ?_
      clear fr a; intro a fr
      refine fx_take (i := 10) (v := .pointer (some ⟨b1, 1, none⟩)) fr rfl (by kernel_rfl) (fr.want rfl rfl rfl) rfl (by first | decide | simp) (fun _ _ _ h => h) (fun _ ⟨hV, B4, B9, B14, _⟩ => x_fieldAddr fo28_1 rfl (fr.ev rfl) rfl) ⟨hV, B4, B9, B14, trivial⟩ ?_
      clear fr a; intro a fr
      refine fx_take (i := 11) (v := .int .i64 ways) fr rfl (by kernel_rfl) (fr.want rfl rfl rfl) rfl (by first | decide | simp) (fun _ _ _ h => h) (fun _ ⟨hV, B4, B9, B14, _⟩ => x_load1 pl3 rfl (fr.ev rfl) (B4.cell 1 rfl)) ⟨hV, B4, B9, B14, trivial⟩ ?_
      clear fr a; intro a fr
      refine fx_one (i := 7) (by kernel_rfl) (fx_op rfl ?_)
      refine fx_call fr (fr.want rfl rfl rfl) rfl (by first | decide | simp) (x_call (vs := [.agg (#[.int .i64 ((n : Nat) : Int), .int .i64 ways, .slice A L.length cap]), .int .u32 l.num]) rfl rfl ⟨(fr.ev rfl), (fr.ev rfl), trivial⟩ Try.func34 nm34 rfl) (rset_c l.num (by omega) (by omega) _) ?_
      clear fr a
      rintro v w23 ⟨rfl, hN24⟩ a fr
      replace hV := hV.new hN24
      replace B4 := B4.new hN24
      replace B9 := B9.new hN24
      replace B14 := B14.new hN24
      replace hF := hF.trNew hN24
      refine wpList_nil ?_
      refine ⟨⟨hV, B4, B9, B14, trivial⟩, ?_⟩
      refine fx_one (i := 8) (by kernel_rfl) (fx_op rfl ?_)
      refine fx_call fr (fr.want rfl rfl rfl) rfl (by first | decide | simp) (x_call (vs := [.agg (#[.int .i64 ((n : Nat) : Int), .int .i64 ways, .slice A L.length cap]), .int .i64 ((si n l.num : Nat) : Int)]) rfl rfl ⟨(fr.ev rfl), (fr.ev rfl), trivial⟩ Try.func33 nm33 rfl) (rof_c (si n l.num) (ways := ways) (hV) (by omega) (by omega)) ?_
      clear fr a
      rintro v w29 ⟨A25, cap26, rfl, O27, hA28, hN30⟩ a fr
      have ap2_A_A25 : Apart2 A A25 := (new_apart2 hA28 fun _ hg => hV.lt hg).symm
      have ap_A25_b1 : Apart A25 b1 := new_apart hA28 B4.lt
      have ap_A25_b6 : Apart A25 b6 := new_apart hA28 B9.lt
      have ap_A25_b11 : Apart A25 b11 := new_apart hA28 B14.lt
      have gA_A25 := gA_new hF hA28
      replace hV := hV.new hN30
      replace B4 := B4.new hN30
      replace B9 := B9.new hN30
      replace B14 := B14.new hN30
      replace hF := hF.trNew hN30
      refine wpList_nil ?_
      refine ⟨⟨hV, B4, B9, B14, trivial⟩, ?_⟩
      refine fx_take (i := 9) (v := .int .i64 (((ofs n L (si n l.num)).length : Nat) : Int)) fr rfl (by kernel_rfl) (fr.want rfl rfl rfl) rfl (by first | decide | simp) (fun _ _ _ h => h) (fun _ ⟨hV, B4, B9, B14, _⟩ => x_len Try.underlying26 rfl (fr.ev rfl)) ⟨hV, B4, B9, B14, trivial⟩ ?_
      clear fr a; intro a fr
      refine fx_take (i := 12) (v := .bool (decide (ways ≤ (((ofs n L (si n l.num)).length : Nat) : Int)))) fr rfl (by kernel_rfl) (fr.want rfl rfl rfl) rfl (by first | decide | simp) (fun _ _ _ h => h) (fun _ ⟨hV, B4, B9, B14, _⟩ => x_geq rfl (fr.ev rfl) (fr.ev rfl) rfl) ⟨hV, B4, B9, B14, trivial⟩ ?_
      clear fr a; intro a fr
      refine fx_take (i := 13) (v := .bool (decide (ways ≤ (((ofs n L (si n l.num)).length : Nat) : Int)))) fr rfl (by kernel_rfl) rfl rfl (by first | decide | simp) (fun _ _ _ h => h) (fun _ ⟨hV, B4, B9, B14, _⟩ => x_pick_t rfl (fr.ev rfl) (fr.ev rfl)) ⟨hV, B4, B9, B14, trivial⟩ ?_
      clear fr a; intro a fr
      refine fx_hdone (by kernel_rfl) ?_
      refine fx_next ?_
      refine fx_cond fr rfl (fun hc31 => ?_) (fun hc31 => ?_)
      · skip
        have hc31 := of_decide_eq_true hc31
        refine wp_seq ?_
        refine wp_region_lit ?_  -- region 5
        refine fx_val (v := .agg (#[.int .i64 ((n : Nat) : Int), .int .i64 ways, .slice A L.length cap])) fr rfl rfl (by first | decide | simp) (x_loadS ag28 rfl (fr.ev rfl) rfl B4.range) ?_
        clear fr a; intro a fr
        refine fx_storeS sz28 rfl rfl rfl (fr.ev rfl) (fr.ev rfl) (by simp [Value.oneCell']) B14 rfl rfl fun w32 hO33 hBq => ?_
        replace hV := hV.only hO33 (Apart.ne1 ap_A_b11)
        replace B4 := B4.only hO33 (by first | exact ne_b1_b11 | exact ne_b11_b1.symm | (show ¬ b1 = b11; omega))
        replace B9 := B9.only hO33 (by first | exact ne_b6_b11 | exact ne_b11_b6.symm | (show ¬ b6 = b11; omega))
        replace O27 := O27.only hO33 (Apart.ne1 ap_A25_b11)
        replace hF := hF.loc hO33 (.inr g_b11)
        replace B14 := hBq
        clear hBq
        refine fx_val (v := .int .i64 200) fr rfl rfl (by first | decide | simp) (x_assign rfl rfl) ?_
        clear fr a; intro a fr
        refine wpList_nil ?_
        refine fx_next ?_
        refine wp_ret ?_
        refine fx_rt ?_
        refine fx_ret fr [.cell 4 28, .tmp 5] [.agg (#[.int .i64 ((n : Nat) : Int), .int .i64 ways, .slice A L.length cap]), .int .i64 200] rfl ⟨⟨_, rfl, x_loadV ag28 rfl B14.range⟩, rfl, trivial⟩ rfl ?_
        have ho : okS l = true := by unfold okS; simp; omega
        have ho' : ¬ okS l = false := by rw [ho]; decide
        have e1 : putE n ways L l = 200 := by unfold putE; rw [if_neg ho', if_pos ⟨hg, by omega⟩]
        have e2 : putL n ways L l = L := by unfold putL; rw [e1]; rfl
        rw [e1, e2]
        exact ⟨_, rfl, A, cap, rfl, hV, fun g hg => .inl hg, hF⟩
      · skip
        have hc31 := of_decide_eq_false hc31
        refine wp_skip ?_
        refine fx_next ?_
        refine wp_seq ?_
        refine wp_region_lit ?_  -- region 6
        refine fx_build0 (E := lnE) elLn fr rfl rfl (by decide) rfl ?_
        clear fr a
        intro A34 w35 hN36 O37 hA38 a fr
        have ap2_A_A34 : Apart2 A A34 := (new_apart2 hA38 fun _ hg => hV.lt hg).symm
        have ap_A34_b1 : Apart A34 b1 := new_apart hA38 B4.lt
        have ap_A34_b6 : Apart A34 b6 := new_apart hA38 B9.lt
        have ap_A34_b11 : Apart A34 b11 := new_apart hA38 B14.lt
        have ap2_A25_A34 : Apart2 A25 A34 := (new_apart2 hA38 fun _ hg => O27.lt hg).symm
        have gA_A34 := gA_new hF hA38
        replace hV := hV.new hN36
        replace B4 := B4.new hN36
        replace B9 := B9.new hN36
        replace B14 := B14.new hN36
        replace O27 := O27.new hN36
        replace hF := hF.trNew hN36
        refine fx_val (v := .pointer (some ⟨b1, 2, none⟩)) fr rfl rfl (by first | decide | simp) (x_fieldAddr fo28_2 rfl (fr.ev rfl) rfl) ?_
        clear fr a; intro a fr
        refine fx_val (v := .slice A L.length cap) fr rfl rfl (by first | decide | simp) (x_load1 pl26 rfl (fr.ev rfl) (B4.cell 2 rfl)) ?_
        clear fr a; intro a fr
        refine fx_append (E := lnE) (l := []) (l' := L) elLn fr rfl rfl (by decide) rfl (fr.ev rfl) (fr.ev rfl) (by first | rfl | (simp; done) | (simp; omega)) (by first | rfl | (simp; done) | (simp; omega)) O37 hV (by first | omega | (simp only [List.length_append, List.length_cons, List.length_nil, List.nil_append]; omega) | (simp; omega)) (by unfold maxLen; first | omega | (simp; omega)) ?_
        clear fr a
        intro A39 cap40 w41 O42 hO43 mv44 a fr
        have ap2_A39_A : Apart2 A39 A := moved_apart2 mv44 ap2_A_A34.symm fun _ hg => hV.lt hg
        have ap_A39_b1 : Apart A39 b1 := moved_apart mv44 ap_A34_b1 B4.lt
        have ap_A39_b6 : Apart A39 b6 := moved_apart mv44 ap_A34_b6 B9.lt
        have ap_A39_b11 : Apart A39 b11 := moved_apart mv44 ap_A34_b11 B14.lt
        have ap2_A39_A25 : Apart2 A39 A25 := moved_apart2 mv44 ap2_A25_A34.symm fun _ hg => O27.lt hg
        have gA_A39 := gA_moved hF mv44 gA_A34
        replace hV := hV.only hO43 (fun g h1 h2 => ap2_A_A34 g h1 h2)
        replace B4 := B4.only hO43 ap_A34_b1
        replace B9 := B9.only hO43 ap_A34_b6
        replace B14 := B14.only hO43 ap_A34_b11
        replace O27 := O27.only hO43 (fun g h1 h2 => ap2_A25_A34 g h1 h2)
        replace hF := hF.locA hO43 gA_A34
        clear O37
        simp only [List.nil_append] at fr O42
        refine fx_val (v := .slice A39 L.length cap40) fr rfl rfl (by first | decide | simp) (x_assign rfl (fr.ev rfl)) ?_
        clear fr a; intro a fr
        refine wpList_nil ?_
        refine fx_next ?_
        refine wp_seq ?_
        refine wp_seq ?_
        refine wp_region_lit ?_  -- region 7
        refine fx_val (v := .int .i64 (-1)) fr rfl rfl (by first | decide | simp) (x_move rfl (fr.ev rfl)) ?_
        clear fr a; intro a fr
        refine fx_val (v := .bool false) fr rfl rfl (by first | decide | simp) (x_geq rfl (fr.ev rfl) rfl rfl) ?_
        clear fr a; intro a fr
        refine wpList_nil ?_
        refine fx_next ?_
        refine fx_cond_f fr rfl ?_
        refine wp_region_lit ?_  -- region 9
        refine fx_val (v := .slice A39 L.length cap40) fr rfl rfl (by first | decide | simp) (x_move rfl (fr.ev rfl)) ?_
        clear fr a; intro a fr
        refine fx_val (v := .agg (lnE.arr l)) fr rfl rfl (by first | decide | simp) (x_loadE (E := lnE) ag39 rfl rfl (fr.ev rfl) (B9.rangeE lnE)) ?_
        clear fr a; intro a fr
        refine fx_build1 (E := lnE) (p := l) elLn (by decide) fr rfl rfl (by decide) rfl (fr.ev rfl) ?_
        clear fr a
        intro A45 w46 hN47 O48 hA49 a fr
        have ap2_A_A45 : Apart2 A A45 := (new_apart2 hA49 fun _ hg => hV.lt hg).symm
        have ap_A45_b1 : Apart A45 b1 := new_apart hA49 B4.lt
        have ap_A45_b6 : Apart A45 b6 := new_apart hA49 B9.lt
        have ap_A45_b11 : Apart A45 b11 := new_apart hA49 B14.lt
        have ap2_A25_A45 : Apart2 A25 A45 := (new_apart2 hA49 fun _ hg => O27.lt hg).symm
        have ap2_A39_A45 : Apart2 A39 A45 := (new_apart2 hA49 fun _ hg => O42.lt hg).symm
        have gA_A45 := gA_new hF hA49
        replace hV := hV.new hN47
        replace B4 := B4.new hN47
        replace B9 := B9.new hN47
        replace B14 := B14.new hN47
        replace O27 := O27.new hN47
        replace O42 := O42.new hN47
        replace hF := hF.trNew hN47
        refine fx_append (E := lnE) (l := L) (l' := [l]) elLn fr rfl rfl (by decide) rfl (fr.ev rfl) (fr.ev rfl) (by first | rfl | (simp; done) | (simp; omega)) (by first | rfl | (simp; done) | (simp; omega)) O42 O48.view (by first | omega | (simp only [List.length_append, List.length_cons, List.length_nil, List.nil_append]; omega) | (simp; omega)) (by unfold maxLen; first | omega | (simp; omega)) ?_
        clear fr a
        intro A50 cap51 w52 O53 hO54 mv55 a fr
        have ap2_A50_A : Apart2 A50 A := moved_apart2 mv55 ap2_A39_A fun _ hg => hV.lt hg
        have ap_A50_b1 : Apart A50 b1 := moved_apart mv55 ap_A39_b1 B4.lt
        have ap_A50_b6 : Apart A50 b6 := moved_apart mv55 ap_A39_b6 B9.lt
        have ap_A50_b11 : Apart A50 b11 := moved_apart mv55 ap_A39_b11 B14.lt
        have ap2_A50_A25 : Apart2 A50 A25 := moved_apart2 mv55 ap2_A39_A25 fun _ hg => O27.lt hg
        have ap2_A50_A45 : Apart2 A50 A45 := moved_apart2 mv55 ap2_A39_A45 fun _ hg => O48.lt hg
        have gA_A50 := gA_moved hF mv55 gA_A39
        replace hV := hV.only hO54 (fun g h1 h2 => ap2_A39_A.symm g h1 h2)
        replace B4 := B4.only hO54 ap_A39_b1
        replace B9 := B9.only hO54 ap_A39_b6
        replace B14 := B14.only hO54 ap_A39_b11
        replace O27 := O27.only hO54 (fun g h1 h2 => ap2_A39_A25.symm g h1 h2)
        replace O48 := O48.only hO54 (fun g h1 h2 => ap2_A39_A45.symm g h1 h2)
        replace hF := hF.locA hO54 gA_A39
        clear O42
        refine fx_val (v := .slice A50 ((L ++ ([l])).length) cap51) fr rfl rfl (by first | decide | simp) (x_assign rfl (fr.ev rfl)) ?_
        clear fr a; intro a fr
        refine wpList_nil ?_
        refine fx_next ?_
        refine wp_seq ?_
        refine wp_region_lit ?_  -- region 10
        refine fx_val (v := .slice A50 ((L ++ ([l])).length) cap51) fr rfl rfl (by first | decide | simp) (x_move rfl (fr.ev rfl)) ?_
        clear fr a; intro a fr
        refine fx_val (v := .pointer (some ⟨b1, 2, none⟩)) fr rfl rfl (by first | decide | simp) (x_fieldAddr fo28_2 rfl (fr.ev rfl) rfl) ?_
        clear fr a; intro a fr
        refine fx_store1 sz26 rfl rfl rfl (fr.ev rfl) (fr.ev rfl) rfl B4 (show 2 < 3 by decide) (cs' := #[.int .i64 ((n : Nat) : Int), .int .i64 ways, .slice A50 ((L ++ ([l])).length) cap51]) rfl fun w56 hO57 hBq => ?_
        replace hV := hV.only hO57 (Apart.ne1 ap_A_b1)
        replace B9 := B9.only hO57 (by first | exact ne_b6_b1 | exact ne_b1_b6.symm | (show ¬ b6 = b1; omega))
        replace B14 := B14.only hO57 (by first | exact ne_b11_b1 | exact ne_b1_b11.symm | (show ¬ b11 = b1; omega))
        replace O27 := O27.only hO57 (Apart.ne1 ap_A25_b1)
        replace O48 := O48.only hO57 (Apart.ne1 ap_A45_b1)
        replace O53 := O53.only hO57 (Apart.ne1 ap_A50_b1)
        replace hF := hF.loc hO57 (.inr g_b1)
        replace B4 := hBq
        clear hBq
        refine wpList_nil ?_
        refine fx_next ?_
        refine wp_seq ?_
        refine wp_region_lit ?_  -- region 11
        refine fx_val (v := .agg (#[.int .i64 ((n : Nat) : Int), .int .i64 ways, .slice A50 ((L ++ ([l])).length) cap51])) fr rfl rfl (by first | decide | simp) (x_loadS ag28 rfl (fr.ev rfl) rfl B4.range) ?_
        clear fr a; intro a fr
        refine fx_storeS sz28 rfl rfl rfl (fr.ev rfl) (fr.ev rfl) (by simp [Value.oneCell']) B14 rfl rfl fun w58 hO59 hBq => ?_
        replace hV := hV.only hO59 (Apart.ne1 ap_A_b11)
        replace B9 := B9.only hO59 (by first | exact ne_b6_b11 | exact ne_b11_b6.symm | (show ¬ b6 = b11; omega))
        replace O27 := O27.only hO59 (Apart.ne1 ap_A25_b11)
        replace O48 := O48.only hO59 (Apart.ne1 ap_A45_b11)
        replace O53 := O53.only hO59 (Apart.ne1 ap_A50_b11)
        replace B4 := B4.only hO59 (by first | exact ne_b1_b11 | exact ne_b11_b1.symm | (show ¬ b1 = b11; omega))
        replace hF := hF.loc hO59 (.inr g_b11)
        replace B14 := hBq
        clear hBq
        refine fx_val (v := .int .i64 0) fr rfl rfl (by first | decide | simp) (x_assign rfl rfl) ?_
        clear fr a; intro a fr
        refine wpList_nil ?_
        refine fx_next ?_
        refine wp_ret ?_
        refine fx_ret fr [.cell 4 28, .tmp 5] [.agg (#[.int .i64 ((n : Nat) : Int), .int .i64 ways, .slice A50 ((L ++ ([l])).length) cap51]), .int .i64 0] rfl ⟨⟨_, rfl, x_loadV ag28 rfl B14.range⟩, rfl, trivial⟩ rfl ?_
        have ho : okS l = true := by unfold okS; simp; omega
        have ho' : ¬ okS l = false := by rw [ho]; decide
        have e1 : putE n ways L l = 0 := by unfold putE; rw [if_neg ho', if_neg (fun h => by omega)]
        have e2 : putL n ways L l = L ++ [l] := by unfold putL; rw [if_pos e1, if_pos hg]
        rw [e1, e2]
        have hO9 := O53
        exact ⟨_, rfl, A50, cap51, rfl, hO9.view, fun g hg => .inr ((gA_A50 g hg).resolve_left id), hF⟩
    · skip
      have hg : getN L l.num = some (L.getD i ln0) := get_at hi hin hall
      rw [hf] at fr
      have hi0 : ¬ ((i : Nat) : Int) < 0 := by omega
      have hi1 : 0 ≤ ((i : Nat) : Int) := by omega
      refine fx_held (n := 14) (fun w => View lnE w A cap L ∧ Blk w b1 28 (#[.int .i64 ((n : Nat) : Int), .int .i64 ways, .slice A L.length cap]) ∧ Blk w b6 39 (lnE.arr l) ∧ Blk w b11 28 (#[.int .i64 0, .int .i64 0, .slice none 0 0]) ∧ True) (by kernel_rfl) rfl ?_  -- region 4
      intro w60 hN61
      replace hV := hV.new hN61
      replace B4 := B4.new hN61
      replace B9 := B9.new hN61
      replace B14 := B14.new hN61
      replace hF := hF.trNew hN61
      refine fx_take (i := 0) (v := .int .i64 ((i : Nat) : Int)) fr rfl (by kernel_rfl) rfl rfl (by first | decide | simp) (fun _ _ _ h => h) (fun _ ⟨hV, B4, B9, B14, _⟩ => x_move rfl (fr.ev rfl)) ⟨hV, B4, B9, B14, trivial⟩ ?_
      clear fr a; intro a fr
      refine fx_take (i := 1) (v := .bool false) fr rfl (by kernel_rfl) rfl rfl (by first | decide | simp) (fun _ _ _ h => h) (fun _ ⟨hV, B4, B9, B14, _⟩ => x_lss rfl (fr.ev rfl) rfl (decide_eq_false hi0)) ⟨hV, B4, B9, B14, trivial⟩ ?_
      clear fr a; intro a fr
      refine fx_take (i := 2) (v := .bool false) fr rfl (by kernel_rfl) rfl rfl (by first | decide | simp) (fun _ _ _ h => h) (fun _ ⟨hV, B4, B9, B14, _⟩ => x_move rfl (fr.ev rfl)) ⟨hV, B4, B9, B14, trivial⟩ ?_
      clear fr a; intro a fr
      refine fx_takeskip (i := 3) fr rfl (by kernel_rfl) (fr.unwant rfl rfl rfl (by decide)) rfl (by first | decide | simp) (fun _ _ _ h => h) ⟨hV, B4, B9, B14, trivial⟩ ?_
      clear fr a; intro a fr
      refine fx_takeskip (i := 4) fr rfl (by kernel_rfl) (fr.unwant rfl rfl rfl (by decide)) rfl (by first | decide | simp) (fun _ _ _ h => h) ⟨hV, B4, B9, B14, trivial⟩ ?_
      clear fr a; intro a fr
      refine fx_takeskip (i := 5) fr rfl (by kernel_rfl) (fr.unwant rfl rfl rfl (by decide)) rfl (by first | decide | simp) (fun _ _ _ h => h) ⟨hV, B4, B9, B14, trivial⟩ ?_
      clear fr a; intro a fr
      refine fx_takeskip (i := 6) fr rfl (by kernel_rfl) (fr.unwant rfl rfl rfl (by decide)) rfl (by first | decide | simp) (fun _ _ _ h => h) ⟨hV, B4, B9, B14, trivial⟩ ?_
      clear fr a; intro a fr
      refine fx_takeskip (i := 7) fr rfl (by kernel_rfl) (fr.unwant rfl rfl rfl (by decide)) rfl (by first | decide | simp) (fun _ _ _ h => h) ⟨hV, B4, B9, B14, trivial⟩ ?_
      clear fr a; intro a fr
      refine fx_takeskip (i := 8) fr rfl (by kernel_rfl) (fr.unwant rfl rfl rfl (by decide)) rfl (by first | decide | simp) (fun _ _ _ h => h) ⟨hV, B4, B9, B14, trivial⟩ ?_
      clear fr a; intro a fr
      refine fx_takeskip (i := 9) fr rfl (by kernel_rfl) (fr.unwant rfl rfl rfl (by decide)) rfl (by first | decide | simp) (fun _ _ _ h => h) ⟨hV, B4, B9, B14, trivial⟩ ?_
      clear fr a; intro a fr
      refine fx_takeskip (i := 10) fr rfl (by kernel_rfl) (fr.unwant rfl rfl rfl (by decide)) rfl (by first | decide | simp) (fun _ _ _ h => h) ⟨hV, B4, B9, B14, trivial⟩ ?_
      clear fr a; intro a fr
      refine fx_takeskip (i := 11) fr rfl (by kernel_rfl) (fr.unwant rfl rfl rfl (by decide)) rfl (by first | decide | simp) (fun _ _ _ h => h) ⟨hV, B4, B9, B14, trivial⟩ ?_
      clear fr a; intro a fr
      refine fx_takeskip (i := 12) fr rfl (by kernel_rfl) (fr.unwant rfl rfl rfl (by decide)) rfl (by first | decide | simp) (fun _ _ _ h => h) ⟨hV, B4, B9, B14, trivial⟩ ?_
      clear fr a; intro a fr
      refine fx_take (i := 13) (v := .bool false) fr rfl (by kernel_rfl) rfl rfl (by first | decide | simp) (fun _ _ _ h => h) (fun _ ⟨hV, B4, B9, B14, _⟩ => x_pick_f rfl (fr.ev rfl) rfl) ⟨hV, B4, B9, B14, trivial⟩ ?_
      clear fr a; intro a fr
      refine fx_hdone (by kernel_rfl) ?_
      refine fx_next ?_
      refine fx_cond_f fr rfl ?_
      refine wp_skip ?_
      refine fx_next ?_
      refine wp_seq ?_
      refine wp_region_lit ?_  -- region 6
      refine fx_build0 (E := lnE) elLn fr rfl rfl (by decide) rfl ?_
      clear fr a
      intro A62 w63 hN64 O65 hA66 a fr
      have ap2_A_A62 : Apart2 A A62 := (new_apart2 hA66 fun _ hg => hV.lt hg).symm
      have ap_A62_b1 : Apart A62 b1 := new_apart hA66 B4.lt
      have ap_A62_b6 : Apart A62 b6 := new_apart hA66 B9.lt
      have ap_A62_b11 : Apart A62 b11 := new_apart hA66 B14.lt
      have gA_A62 := gA_new hF hA66
      replace hV := hV.new hN64
      replace B4 := B4.new hN64
      replace B9 := B9.new hN64
      replace B14 := B14.new hN64
      replace hF := hF.trNew hN64
      refine fx_val (v := .pointer (some ⟨b1, 2, none⟩)) fr rfl rfl (by first | decide | simp) (x_fieldAddr fo28_2 rfl (fr.ev rfl) rfl) ?_
      clear fr a; intro a fr
      refine fx_val (v := .slice A L.length cap) fr rfl rfl (by first | decide | simp) (x_load1 pl26 rfl (fr.ev rfl) (B4.cell 2 rfl)) ?_
      clear fr a; intro a fr
      refine fx_append (E := lnE) (l := []) (l' := L) elLn fr rfl rfl (by decide) rfl (fr.ev rfl) (fr.ev rfl) (by first | rfl | (simp; done) | (simp; omega)) (by first | rfl | (simp; done) | (simp; omega)) O65 hV (by first | omega | (simp only [List.length_append, List.length_cons, List.length_nil, List.nil_append]; omega) | (simp; omega)) (by unfold maxLen; first | omega | (simp; omega)) ?_
      clear fr a
      intro A67 cap68 w69 O70 hO71 mv72 a fr
      have ap2_A67_A : Apart2 A67 A := moved_apart2 mv72 ap2_A_A62.symm fun _ hg => hV.lt hg
      have ap_A67_b1 : Apart A67 b1 := moved_apart mv72 ap_A62_b1 B4.lt
      have ap_A67_b6 : Apart A67 b6 := moved_apart mv72 ap_A62_b6 B9.lt
      have ap_A67_b11 : Apart A67 b11 := moved_apart mv72 ap_A62_b11 B14.lt
      have gA_A67 := gA_moved hF mv72 gA_A62
      replace hV := hV.only hO71 (fun g h1 h2 => ap2_A_A62 g h1 h2)
      replace B4 := B4.only hO71 ap_A62_b1
      replace B9 := B9.only hO71 ap_A62_b6
      replace B14 := B14.only hO71 ap_A62_b11
      replace hF := hF.locA hO71 gA_A62
      clear O65
      simp only [List.nil_append] at fr O70
      refine fx_val (v := .slice A67 L.length cap68) fr rfl rfl (by first | decide | simp) (x_assign rfl (fr.ev rfl)) ?_
      clear fr a; intro a fr
      refine wpList_nil ?_
      refine fx_next ?_
      refine wp_seq ?_
      refine wp_seq ?_
      refine wp_region_lit ?_  -- region 7
      refine fx_val (v := .int .i64 ((i : Nat) : Int)) fr rfl rfl (by first | decide | simp) (x_move rfl (fr.ev rfl)) ?_
      clear fr a; intro a fr
      refine fx_val (v := .bool true) fr rfl rfl (by first | decide | simp) (x_geq rfl (fr.ev rfl) rfl (decide_eq_true hi1)) ?_
      clear fr a; intro a fr
      refine wpList_nil ?_
      refine fx_next ?_
      refine fx_cond_t fr rfl ?_
      refine wp_region_lit ?_  -- region 8
      refine fx_val (v := .slice A67 L.length cap68) fr rfl rfl (by first | decide | simp) (x_move rfl (fr.ev rfl)) ?_
      clear fr a; intro a fr
      refine fx_val (v := .int .i64 ((i : Nat) : Int)) fr rfl rfl (by first | decide | simp) (x_move rfl (fr.ev rfl)) ?_
      clear fr a; intro a fr
      refine fx_val (v := .agg (lnE.arr l)) fr rfl rfl (by first | decide | simp) (x_loadE (E := lnE) ag39 rfl rfl (fr.ev rfl) (B9.rangeE lnE)) ?_
      clear fr a; intro a fr
      obtain ⟨g73, o74, hA75⟩ := (O70.view).some_ (by omega)
      refine fx_val (v := .pointer (some ⟨g73, o74 + i * 18, none⟩)) fr rfl rfl (by first | decide | simp) (x_indexV Try.underlying26 sz39 rfl (fr.ev rfl) hA75 (fr.ev rfl) (by omega) rfl) ?_
      clear fr a; intro a fr
      refine fx_storeRec (E := lnE) (x' := l) sz39 rfl rfl rfl hA75 O70 (by first | omega | (simp only [List.length_set]; omega)) (fr.ev rfl) rfl (fr.ev rfl) fun w76 hO77 hBq => ?_
      replace hV := hV.only hO77 (fun g h1 h2 => ap2_A67_A.symm g h1 h2)
      replace B4 := B4.only hO77 ap_A67_b1
      replace B9 := B9.only hO77 ap_A67_b6
      replace B14 := B14.only hO77 ap_A67_b11
      replace hF := hF.locA hO77 gA_A67
      replace O70 := hBq
      clear hBq
      refine wpList_nil ?_
      refine fx_next ?_
      refine wp_seq ?_
      refine wp_region_lit ?_  -- region 10
      refine fx_val (v := .slice A67 L.length cap68) fr rfl rfl (by first | decide | simp) (x_move rfl (fr.ev rfl)) ?_
      clear fr a; intro a fr
      refine fx_val (v := .pointer (some ⟨b1, 2, none⟩)) fr rfl rfl (by first | decide | simp) (x_fieldAddr fo28_2 rfl (fr.ev rfl) rfl) ?_
      clear fr a; intro a fr
      refine fx_store1 sz26 rfl rfl rfl (fr.ev rfl) (fr.ev rfl) rfl B4 (show 2 < 3 by decide) (cs' := #[.int .i64 ((n : Nat) : Int), .int .i64 ways, .slice A67 L.length cap68]) rfl fun w78 hO79 hBq => ?_
      replace hV := hV.only hO79 (Apart.ne1 ap_A_b1)
      replace B9 := B9.only hO79 (by first | exact ne_b6_b1 | exact ne_b1_b6.symm | (show ¬ b6 = b1; omega))
      replace B14 := B14.only hO79 (by first | exact ne_b11_b1 | exact ne_b1_b11.symm | (show ¬ b11 = b1; omega))
      replace O70 := O70.only hO79 (Apart.ne1 ap_A67_b1)
      replace hF := hF.loc hO79 (.inr g_b1)
      replace B4 := hBq
      clear hBq
      refine wpList_nil ?_
      refine fx_next ?_
      refine wp_seq ?_
      refine wp_region_lit ?_  -- region 11
      refine fx_val (v := .agg (#[.int .i64 ((n : Nat) : Int), .int .i64 ways, .slice A67 L.length cap68])) fr rfl rfl (by first | decide | simp) (x_loadS ag28 rfl (fr.ev rfl) rfl B4.range) ?_
      clear fr a; intro a fr
      refine fx_storeS sz28 rfl rfl rfl (fr.ev rfl) (fr.ev rfl) (by simp [Value.oneCell']) B14 rfl rfl fun w80 hO81 hBq => ?_
      replace hV := hV.only hO81 (Apart.ne1 ap_A_b11)
      replace B9 := B9.only hO81 (by first | exact ne_b6_b11 | exact ne_b11_b6.symm | (show ¬ b6 = b11; omega))
      replace O70 := O70.only hO81 (Apart.ne1 ap_A67_b11)
      replace B4 := B4.only hO81 (by first | exact ne_b1_b11 | exact ne_b11_b1.symm | (show ¬ b1 = b11; omega))
      replace hF := hF.loc hO81 (.inr g_b11)
      replace B14 := hBq
      clear hBq
      refine fx_val (v := .int .i64 0) fr rfl rfl (by first | decide | simp) (x_assign rfl rfl) ?_
      clear fr a; intro a fr
      refine wpList_nil ?_
      refine fx_next ?_
      refine wp_ret ?_
      refine fx_ret fr [.cell 4 28, .tmp 5] [.agg (#[.int .i64 ((n : Nat) : Int), .int .i64 ways, .slice A67 L.length cap68]), .int .i64 0] rfl ⟨⟨_, rfl, x_loadV ag28 rfl B14.range⟩, rfl, trivial⟩ rfl ?_
      have ho : okS l = true := by unfold okS; simp; omega
      have ho' : ¬ okS l = false := by rw [ho]; decide
      have e1 : putE n ways L l = 0 := by unfold putE; rw [if_neg ho', if_neg (fun h => by rw [hg] at h; cases h.1)]
      have e2 : putL n ways L l = L.set i l := by unfold putL; rw [if_pos e1, if_neg (by rw [hg]; intro h; cases h), set_at hi hin hall]
      rw [e1, e2]
      have hO9 := O70
      exact ⟨_, rfl, A67, cap68, by simp only [List.length_set]; rfl, hO9.view, fun g hg => .inr ((gA_A67 g hg).resolve_left id), hF⟩
end Go.Proofs.Ytdjgfkjcpalihaa
