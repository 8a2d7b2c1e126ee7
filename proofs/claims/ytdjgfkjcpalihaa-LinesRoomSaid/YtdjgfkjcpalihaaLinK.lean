/-
  LinesRoom. Printed by gen_k.py.
-/
import Derived.Test.YtdjgfkjcpalihaaLinI
namespace Go.Proofs.Ytdjgfkjcpalihaa
open Go.RowKit

set_option maxRecDepth 100000 in
set_option maxHeartbeats 4000000 in
theorem room_no {w : World} {P : Option Addr} {cp : Nat} {la : List LAct} (hV : View actE w P cp la) (q : LAct) (pick : Int) (sets ways : Int) (hr : rightB sets ways = false) : Calls Try.prog 7 #[.int .i64 sets, .int .i64 ways, .slice P la.length cp, .agg (actE.arr q), .int .i64 pick] w (Ret fun v w' => v = .bool true ∧ New w w') := by
  have hF := Only.refl (fun _ => False) w
  refine fx_enter Try.func7 rfl (N := (196, [])) (T := [(0, .int .i64 sets), (1, .int .i64 ways), (2, .slice P la.length cp), (3, .agg (actE.arr q)), (4, .int .i64 pick)]) rfl (show 5 ≤ 196 by decide) ⟨rfl, rfl, rfl, rfl, rfl, trivial⟩ fun a fr => ?_
  refine wp_seq ?_
  refine wp_region_lit ?_  -- region 0
  refine fx_new fr rfl rfl (by first | decide | simp) (x_box (cs := actE.arr q) rfl (fr.ev rfl) rfl) ?_
  clear fr a
  intro b1 w2 hN3 B4 hb5 a fr
  have ap_P_b1 : Apart P b1 := hV.apart hb5
  have g_b1 := Nat.le_trans hF.size hb5
  replace hV := hV.new hN3
  replace hF := hF.trNew hN3
  refine fx_val (v := .bool false) fr rfl rfl (by first | decide | simp) (x_assign rfl rfl) ?_
  clear fr a; intro a fr
  refine wpList_nil ?_
  refine fx_next ?_
  refine wp_seq ?_
  refine wp_seq ?_
  refine wp_region_lit ?_  -- region 1
  refine fx_val (v := .int .i64 sets) fr rfl rfl (by first | decide | simp) (x_move rfl (fr.ev rfl)) ?_
  clear fr a; intro a fr
  refine fx_val (v := .int .i64 ways) fr rfl rfl (by first | decide | simp) (x_move rfl (fr.ev rfl)) ?_
  clear fr a; intro a fr
  refine fx_call fr rfl rfl (by first | decide | simp) (x_call (vs := [.int .i64 sets, .int .i64 ways]) rfl rfl ⟨(fr.ev rfl), (fr.ev rfl), trivial⟩ Try.func10 nm10 rfl) (right_c sets ways _) ?_
  clear fr a
  rintro v w6 ⟨rfl, hN7⟩ a fr
  replace hV := hV.new hN7
  replace B4 := B4.new hN7
  replace hF := hF.trNew hN7
  rw [hr] at fr
  refine fx_val (v := .bool true) fr rfl rfl (by first | decide | simp) (x_not rfl (fr.ev rfl) rfl) ?_
  clear fr a; intro a fr
  refine fx_val (v := .bool true) fr rfl rfl (by first | decide | simp) (x_move rfl (fr.ev rfl)) ?_
  clear fr a; intro a fr
  refine fx_skip fr (fr.unwant rfl rfl rfl (by decide)) rfl (by first | decide | simp) ?_
  clear fr a; intro a fr
  refine fx_skip fr (fr.unwant rfl rfl rfl (by decide)) rfl (by first | decide | simp) ?_
  clear fr a; intro a fr
  refine fx_skip fr (fr.unwant rfl rfl rfl (by decide)) rfl (by first | decide | simp) ?_
  clear fr a; intro a fr
  refine fx_val (v := .bool true) fr rfl rfl (by first | decide | simp) (x_pick_t rfl (fr.ev rfl) rfl) ?_
  clear fr a; intro a fr
  refine fx_val (v := .bool true) fr rfl rfl (by first | decide | simp) (x_move rfl (fr.ev rfl)) ?_
  clear fr a; intro a fr
  refine fx_skip fr (fr.unwant rfl rfl rfl (by decide)) rfl (by first | decide | simp) ?_
  clear fr a; intro a fr
  refine fx_skip fr (fr.unwant rfl rfl rfl (by decide)) rfl (by first | decide | simp) ?_
  clear fr a; intro a fr
  refine fx_skip fr (fr.unwant rfl rfl rfl (by decide)) rfl (by first | decide | simp) ?_
  clear fr a; intro a fr
  refine fx_skip fr (fr.unwant rfl rfl rfl (by decide)) rfl (by first | decide | simp) ?_
  clear fr a; intro a fr
  refine fx_val (v := .bool true) fr rfl rfl (by first | decide | simp) (x_pick_t rfl (fr.ev rfl) rfl) ?_
  clear fr a; intro a fr
  refine fx_val (v := .bool true) fr rfl rfl (by first | decide | simp) (x_move rfl (fr.ev rfl)) ?_
  clear fr a; intro a fr
  refine fx_skip fr (fr.unwant rfl rfl rfl (by decide)) rfl (by first | decide | simp) ?_
  clear fr a; intro a fr
  refine fx_skip fr (fr.unwant rfl rfl rfl (by decide)) rfl (by first | decide | simp) ?_
  clear fr a; intro a fr
  refine fx_skip fr (fr.unwant rfl rfl rfl (by decide)) rfl (by first | decide | simp) ?_
  clear fr a; intro a fr
  refine fx_skip fr (fr.unwant rfl rfl rfl (by decide)) rfl (by first | decide | simp) ?_
  clear fr a; intro a fr
  refine fx_val (v := .bool true) fr rfl rfl (by first | decide | simp) (x_pick_t rfl (fr.ev rfl) rfl) ?_
  clear fr a; intro a fr
  refine wpList_nil ?_
  refine fx_next ?_
  refine fx_cond_t fr rfl ?_
  refine wp_seq ?_
  refine wp_region_lit ?_  -- region 2
  refine fx_call fr rfl rfl (by first | decide | simp) (x_call (vs := []) rfl rfl trivial Try.func11 nm11 rfl) (works_c _) ?_
  clear fr a
  rintro v w8 ⟨rfl, hN9⟩ a fr
  replace hV := hV.new hN9
  replace B4 := B4.new hN9
  replace hF := hF.trNew hN9
  refine fx_val (v := .bool true) fr rfl rfl (by first | decide | simp) (x_assign rfl (fr.ev rfl)) ?_
  clear fr a; intro a fr
  refine wpList_nil ?_
  refine fx_next ?_
  refine wp_ret ?_
  refine fx_rt ?_
  refine fx_ret fr [.tmp 10] [.bool true] rfl ⟨rfl, trivial⟩ rfl ?_
  exact ⟨_, rfl, rfl, hF⟩
set_option maxRecDepth 100000 in
set_option maxHeartbeats 4000000 in
theorem room_yes {w : World} {P : Option Addr} {cp : Nat} {la : List LAct} (hV : View actE w P cp la) (q : LAct) (pick : Int) (n : Nat) (ways : Int) (hr : rightB ((n : Nat) : Int) ways = true) : Calls Try.prog 7 #[.int .i64 ((n : Nat) : Int), .int .i64 ways, .slice P la.length cp, .agg (actE.arr q), .int .i64 pick] w (Ret fun v w' => v = .bool true ∧ New w w') := by
  have hVl := hV.len
  unfold maxLen at hVl
  have hrb := right_bd hr
  have hF := Only.refl (fun _ => False) w
  refine fx_enter Try.func7 rfl (N := (196, [])) (T := [(0, .int .i64 ((n : Nat) : Int)), (1, .int .i64 ways), (2, .slice P la.length cp), (3, .agg (actE.arr q)), (4, .int .i64 pick)]) rfl (show 5 ≤ 196 by decide) ⟨rfl, rfl, rfl, rfl, rfl, trivial⟩ fun a fr => ?_
  refine wp_seq ?_
  refine wp_region_lit ?_  -- region 0
  refine fx_new fr rfl rfl (by first | decide | simp) (x_box (cs := actE.arr q) rfl (fr.ev rfl) rfl) ?_
  clear fr a
  intro b1 w2 hN3 B4 hb5 a fr
  have ap_P_b1 : Apart P b1 := hV.apart hb5
  have g_b1 := Nat.le_trans hF.size hb5
  replace hV := hV.new hN3
  replace hF := hF.trNew hN3
  refine fx_val (v := .bool false) fr rfl rfl (by first | decide | simp) (x_assign rfl rfl) ?_
  clear fr a; intro a fr
  refine wpList_nil ?_
  refine fx_next ?_
  refine wp_seq ?_
  refine wp_seq ?_
  have hx : (100 < ((la.length : Nat) : Int)) ∨ (¬ 100 < ((la.length : Nat) : Int) ∧ q.ln.state < 1) ∨ (¬ 100 < ((la.length : Nat) : Int) ∧ ¬ q.ln.state < 1 ∧ 3 < q.ln.state) ∨ (¬ 100 < ((la.length : Nat) : Int) ∧ ¬ q.ln.state < 1 ∧ ¬ 3 < q.ln.state) := by omega
  rcases hx with hx1 | ⟨hx1, hx2⟩ | ⟨hx1, hx2, hx3⟩ | ⟨hx1, hx2, hx3⟩
  · skip
    refine wp_region_lit ?_  -- region 1
    refine fx_val (v := .int .i64 ((n : Nat) : Int)) fr rfl rfl (by first | decide | simp) (x_move rfl (fr.ev rfl)) ?_
    clear fr a; intro a fr
    refine fx_val (v := .int .i64 ways) fr rfl rfl (by first | decide | simp) (x_move rfl (fr.ev rfl)) ?_
    clear fr a; intro a fr
    refine fx_call fr rfl rfl (by first | decide | simp) (x_call (vs := [.int .i64 ((n : Nat) : Int), .int .i64 ways]) rfl rfl ⟨(fr.ev rfl), (fr.ev rfl), trivial⟩ Try.func10 nm10 rfl) (right_c ((n : Nat) : Int) ways _) ?_
    clear fr a
    rintro v w6 ⟨rfl, hN7⟩ a fr
    replace hV := hV.new hN7
    replace B4 := B4.new hN7
    replace hF := hF.trNew hN7
    rw [hr] at fr
    refine fx_val (v := .bool false) fr rfl rfl (by first | decide | simp) (x_not rfl (fr.ev rfl) rfl) ?_
    clear fr a; intro a fr
    refine fx_val (v := .bool false) fr rfl rfl (by first | decide | simp) (x_move rfl (fr.ev rfl)) ?_
    clear fr a; intro a fr
    refine fx_val (v := .slice P la.length cp) fr (fr.want rfl rfl rfl) rfl (by first | decide | simp) (x_move rfl (fr.ev rfl)) ?_
    clear fr a; intro a fr
    refine fx_val (v := .int .i64 ((la.length : Nat) : Int)) fr (fr.want rfl rfl rfl) rfl (by first | decide | simp) (x_len Try.underlying22 rfl (fr.ev rfl)) ?_
    clear fr a; intro a fr
    refine fx_val (v := .bool true) fr (fr.want rfl rfl rfl) rfl (by first | decide | simp) (x_gtr rfl (fr.ev rfl) rfl (decide_eq_true hx1)) ?_
    clear fr a; intro a fr
    refine fx_val (v := .bool true) fr rfl rfl (by first | decide | simp) (x_pick_f rfl (fr.ev rfl) (fr.ev rfl)) ?_
    clear fr a; intro a fr
    refine fx_val (v := .bool true) fr rfl rfl (by first | decide | simp) (x_move rfl (fr.ev rfl)) ?_
    clear fr a; intro a fr
    refine fx_skip fr (fr.unwant rfl rfl rfl (by decide)) rfl (by first | decide | simp) ?_
    clear fr a; intro a fr
    refine fx_skip fr (fr.unwant rfl rfl rfl (by decide)) rfl (by first | decide | simp) ?_
    clear fr a; intro a fr
    refine fx_skip fr (fr.unwant rfl rfl rfl (by decide)) rfl (by first | decide | simp) ?_
    clear fr a; intro a fr
    refine fx_skip fr (fr.unwant rfl rfl rfl (by decide)) rfl (by first | decide | simp) ?_
    clear fr a; intro a fr
    refine fx_val (v := .bool true) fr rfl rfl (by first | decide | simp) (x_pick_t rfl (fr.ev rfl) rfl) ?_
    clear fr a; intro a fr
    refine fx_val (v := .bool true) fr rfl rfl (by first | decide | simp) (x_move rfl (fr.ev rfl)) ?_
    clear fr a; intro a fr
    refine fx_skip fr (fr.unwant rfl rfl rfl (by decide)) rfl (by first | decide | simp) ?_
    clear fr a; intro a fr
    refine fx_skip fr (fr.unwant rfl rfl rfl (by decide)) rfl (by first | decide | simp) ?_
    clear fr a; intro a fr
    refine fx_skip fr (fr.unwant rfl rfl rfl (by decide)) rfl (by first | decide | simp) ?_
    clear fr a; intro a fr
    refine fx_skip fr (fr.unwant rfl rfl rfl (by decide)) rfl (by first | decide | simp) ?_
    clear fr a; intro a fr
    refine fx_val (v := .bool true) fr rfl rfl (by first | decide | simp) (x_pick_t rfl (fr.ev rfl) rfl) ?_
    clear fr a; intro a fr
    refine wpList_nil ?_
    refine fx_next ?_
    refine fx_cond_t fr rfl ?_
    refine wp_seq ?_
    refine wp_region_lit ?_  -- region 2
    refine fx_call fr rfl rfl (by first | decide | simp) (x_call (vs := []) rfl rfl trivial Try.func11 nm11 rfl) (works_c _) ?_
    clear fr a
    rintro v w8 ⟨rfl, hN9⟩ a fr
    replace hV := hV.new hN9
    replace B4 := B4.new hN9
    replace hF := hF.trNew hN9
    refine fx_val (v := .bool true) fr rfl rfl (by first | decide | simp) (x_assign rfl (fr.ev rfl)) ?_
    clear fr a; intro a fr
    refine wpList_nil ?_
    refine fx_next ?_
    refine wp_ret ?_
    refine fx_rt ?_
    refine fx_ret fr [.tmp 10] [.bool true] rfl ⟨rfl, trivial⟩ rfl ?_
    exact ⟨_, rfl, rfl, hF⟩
  · skip
    refine wp_region_lit ?_  -- region 1
    refine fx_val (v := .int .i64 ((n : Nat) : Int)) fr rfl rfl (by first | decide | simp) (x_move rfl (fr.ev rfl)) ?_
    clear fr a; intro a fr
    refine fx_val (v := .int .i64 ways) fr rfl rfl (by first | decide | simp) (x_move rfl (fr.ev rfl)) ?_
    clear fr a; intro a fr
    refine fx_call fr rfl rfl (by first | decide | simp) (x_call (vs := [.int .i64 ((n : Nat) : Int), .int .i64 ways]) rfl rfl ⟨(fr.ev rfl), (fr.ev rfl), trivial⟩ Try.func10 nm10 rfl) (right_c ((n : Nat) : Int) ways _) ?_
    clear fr a
    rintro v w10 ⟨rfl, hN11⟩ a fr
    replace hV := hV.new hN11
    replace B4 := B4.new hN11
    replace hF := hF.trNew hN11
    rw [hr] at fr
    refine fx_val (v := .bool false) fr rfl rfl (by first | decide | simp) (x_not rfl (fr.ev rfl) rfl) ?_
    clear fr a; intro a fr
    refine fx_val (v := .bool false) fr rfl rfl (by first | decide | simp) (x_move rfl (fr.ev rfl)) ?_
    clear fr a; intro a fr
    refine fx_val (v := .slice P la.length cp) fr (fr.want rfl rfl rfl) rfl (by first | decide | simp) (x_move rfl (fr.ev rfl)) ?_
    clear fr a; intro a fr
    refine fx_val (v := .int .i64 ((la.length : Nat) : Int)) fr (fr.want rfl rfl rfl) rfl (by first | decide | simp) (x_len Try.underlying22 rfl (fr.ev rfl)) ?_
    clear fr a; intro a fr
    refine fx_val (v := .bool false) fr (fr.want rfl rfl rfl) rfl (by first | decide | simp) (x_gtr rfl (fr.ev rfl) rfl (decide_eq_false hx1)) ?_
    clear fr a; intro a fr
    refine fx_val (v := .bool false) fr rfl rfl (by first | decide | simp) (x_pick_f rfl (fr.ev rfl) (fr.ev rfl)) ?_
    clear fr a; intro a fr
    refine fx_val (v := .bool false) fr rfl rfl (by first | decide | simp) (x_move rfl (fr.ev rfl)) ?_
    clear fr a; intro a fr
    refine fx_val (v := .pointer (some ⟨b1, 1, none⟩)) fr (fr.want rfl rfl rfl) rfl (by first | decide | simp) (x_fieldAddr fo57_1 rfl (fr.ev rfl) rfl) ?_
    clear fr a; intro a fr
    refine fx_val (v := .pointer (some ⟨b1, 2, none⟩)) fr (fr.want rfl rfl rfl) rfl (by first | decide | simp) (x_fieldAddr fo39_1 rfl (fr.ev rfl) rfl) ?_
    clear fr a; intro a fr
    refine fx_val (v := .int .i64 q.ln.state) fr (fr.want rfl rfl rfl) rfl (by first | decide | simp) (x_load1 pl36 rfl (fr.ev rfl) (B4.cell 2 rfl)) ?_
    clear fr a; intro a fr
    refine fx_val (v := .bool true) fr (fr.want rfl rfl rfl) rfl (by first | decide | simp) (x_lss rfl (fr.ev rfl) rfl (decide_eq_true hx2)) ?_
    clear fr a; intro a fr
    refine fx_val (v := .bool true) fr rfl rfl (by first | decide | simp) (x_pick_f rfl (fr.ev rfl) (fr.ev rfl)) ?_
    clear fr a; intro a fr
    refine fx_val (v := .bool true) fr rfl rfl (by first | decide | simp) (x_move rfl (fr.ev rfl)) ?_
    clear fr a; intro a fr
    refine fx_skip fr (fr.unwant rfl rfl rfl (by decide)) rfl (by first | decide | simp) ?_
    clear fr a; intro a fr
    refine fx_skip fr (fr.unwant rfl rfl rfl (by decide)) rfl (by first | decide | simp) ?_
    clear fr a; intro a fr
    refine fx_skip fr (fr.unwant rfl rfl rfl (by decide)) rfl (by first | decide | simp) ?_
    clear fr a; intro a fr
    refine fx_skip fr (fr.unwant rfl rfl rfl (by decide)) rfl (by first | decide | simp) ?_
    clear fr a; intro a fr
    refine fx_val (v := .bool true) fr rfl rfl (by first | decide | simp) (x_pick_t rfl (fr.ev rfl) rfl) ?_
    clear fr a; intro a fr
    refine wpList_nil ?_
    refine fx_next ?_
    refine fx_cond_t fr rfl ?_
    refine wp_seq ?_
    refine wp_region_lit ?_  -- region 2
    refine fx_call fr rfl rfl (by first | decide | simp) (x_call (vs := []) rfl rfl trivial Try.func11 nm11 rfl) (works_c _) ?_
    clear fr a
    rintro v w12 ⟨rfl, hN13⟩ a fr
    replace hV := hV.new hN13
    replace B4 := B4.new hN13
    replace hF := hF.trNew hN13
    refine fx_val (v := .bool true) fr rfl rfl (by first | decide | simp) (x_assign rfl (fr.ev rfl)) ?_
    clear fr a; intro a fr
    refine wpList_nil ?_
    refine fx_next ?_
    refine wp_ret ?_
    refine fx_rt ?_
    refine fx_ret fr [.tmp 10] [.bool true] rfl ⟨rfl, trivial⟩ rfl ?_
    exact ⟨_, rfl, rfl, hF⟩
  · skip
    refine wp_region_lit ?_  -- region 1
    refine fx_val (v := .int .i64 ((n : Nat) : Int)) fr rfl rfl (by first | decide | simp) (x_move rfl (fr.ev rfl)) ?_
    clear fr a; intro a fr
    refine fx_val (v := .int .i64 ways) fr rfl rfl (by first | decide | simp) (x_move rfl (fr.ev rfl)) ?_
    clear fr a; intro a fr
    refine fx_call fr rfl rfl (by first | decide | simp) (x_call (vs := [.int .i64 ((n : Nat) : Int), .int .i64 ways]) rfl rfl ⟨(fr.ev rfl), (fr.ev rfl), trivial⟩ Try.func10 nm10 rfl) (right_c ((n : Nat) : Int) ways _) ?_
    clear fr a
    rintro v w14 ⟨rfl, hN15⟩ a fr
    replace hV := hV.new hN15
    replace B4 := B4.new hN15
    replace hF := hF.trNew hN15
    rw [hr] at fr
    refine fx_val (v := .bool false) fr rfl rfl (by first | decide | simp) (x_not rfl (fr.ev rfl) rfl) ?_
    clear fr a; intro a fr
    refine fx_val (v := .bool false) fr rfl rfl (by first | decide | simp) (x_move rfl (fr.ev rfl)) ?_
    clear fr a; intro a fr
    refine fx_val (v := .slice P la.length cp) fr (fr.want rfl rfl rfl) rfl (by first | decide | simp) (x_move rfl (fr.ev rfl)) ?_
    clear fr a; intro a fr
    refine fx_val (v := .int .i64 ((la.length : Nat) : Int)) fr (fr.want rfl rfl rfl) rfl (by first | decide | simp) (x_len Try.underlying22 rfl (fr.ev rfl)) ?_
    clear fr a; intro a fr
    refine fx_val (v := .bool false) fr (fr.want rfl rfl rfl) rfl (by first | decide | simp) (x_gtr rfl (fr.ev rfl) rfl (decide_eq_false hx1)) ?_
    clear fr a; intro a fr
    refine fx_val (v := .bool false) fr rfl rfl (by first | decide | simp) (x_pick_f rfl (fr.ev rfl) (fr.ev rfl)) ?_
    clear fr a; intro a fr
    refine fx_val (v := .bool false) fr rfl rfl (by first | decide | simp) (x_move rfl (fr.ev rfl)) ?_
    clear fr a; intro a fr
    refine fx_val (v := .pointer (some ⟨b1, 1, none⟩)) fr (fr.want rfl rfl rfl) rfl (by first | decide | simp) (x_fieldAddr fo57_1 rfl (fr.ev rfl) rfl) ?_
    clear fr a; intro a fr
    refine fx_val (v := .pointer (some ⟨b1, 2, none⟩)) fr (fr.want rfl rfl rfl) rfl (by first | decide | simp) (x_fieldAddr fo39_1 rfl (fr.ev rfl) rfl) ?_
    clear fr a; intro a fr
    refine fx_val (v := .int .i64 q.ln.state) fr (fr.want rfl rfl rfl) rfl (by first | decide | simp) (x_load1 pl36 rfl (fr.ev rfl) (B4.cell 2 rfl)) ?_
    clear fr a; intro a fr
    refine fx_val (v := .bool false) fr (fr.want rfl rfl rfl) rfl (by first | decide | simp) (x_lss rfl (fr.ev rfl) rfl (decide_eq_false hx2)) ?_
    clear fr a; intro a fr
    refine fx_val (v := .bool false) fr rfl rfl (by first | decide | simp) (x_pick_f rfl (fr.ev rfl) (fr.ev rfl)) ?_
    clear fr a; intro a fr
    refine fx_val (v := .bool false) fr rfl rfl (by first | decide | simp) (x_move rfl (fr.ev rfl)) ?_
    clear fr a; intro a fr
    refine fx_val (v := .pointer (some ⟨b1, 1, none⟩)) fr (fr.want rfl rfl rfl) rfl (by first | decide | simp) (x_fieldAddr fo57_1 rfl (fr.ev rfl) rfl) ?_
    clear fr a; intro a fr
    refine fx_val (v := .pointer (some ⟨b1, 2, none⟩)) fr (fr.want rfl rfl rfl) rfl (by first | decide | simp) (x_fieldAddr fo39_1 rfl (fr.ev rfl) rfl) ?_
    clear fr a; intro a fr
    refine fx_val (v := .int .i64 q.ln.state) fr (fr.want rfl rfl rfl) rfl (by first | decide | simp) (x_load1 pl36 rfl (fr.ev rfl) (B4.cell 2 rfl)) ?_
    clear fr a; intro a fr
    refine fx_val (v := .bool true) fr (fr.want rfl rfl rfl) rfl (by first | decide | simp) (x_gtr rfl (fr.ev rfl) rfl (decide_eq_true hx3)) ?_
    clear fr a; intro a fr
    refine fx_val (v := .bool true) fr rfl rfl (by first | decide | simp) (x_pick_f rfl (fr.ev rfl) (fr.ev rfl)) ?_
    clear fr a; intro a fr
    refine wpList_nil ?_
    refine fx_next ?_
    refine fx_cond_t fr rfl ?_
    refine wp_seq ?_
    refine wp_region_lit ?_  -- region 2
    refine fx_call fr rfl rfl (by first | decide | simp) (x_call (vs := []) rfl rfl trivial Try.func11 nm11 rfl) (works_c _) ?_
    clear fr a
    rintro v w16 ⟨rfl, hN17⟩ a fr
    replace hV := hV.new hN17
    replace B4 := B4.new hN17
    replace hF := hF.trNew hN17
    refine fx_val (v := .bool true) fr rfl rfl (by first | decide | simp) (x_assign rfl (fr.ev rfl)) ?_
    clear fr a; intro a fr
    refine wpList_nil ?_
    refine fx_next ?_
    refine wp_ret ?_
    refine fx_rt ?_
    refine fx_ret fr [.tmp 10] [.bool true] rfl ⟨rfl, trivial⟩ rfl ?_
    exact ⟨_, rfl, rfl, hF⟩
  · skip
    refine wp_region_lit ?_  -- region 1
    refine fx_val (v := .int .i64 ((n : Nat) : Int)) fr rfl rfl (by first | decide | simp) (x_move rfl (fr.ev rfl)) ?_
    clear fr a; intro a fr
    refine fx_val (v := .int .i64 ways) fr rfl rfl (by first | decide | simp) (x_move rfl (fr.ev rfl)) ?_
    clear fr a; intro a fr
    refine fx_call fr rfl rfl (by first | decide | simp) (x_call (vs := [.int .i64 ((n : Nat) : Int), .int .i64 ways]) rfl rfl ⟨(fr.ev rfl), (fr.ev rfl), trivial⟩ Try.func10 nm10 rfl) (right_c ((n : Nat) : Int) ways _) ?_
    clear fr a
    rintro v w18 ⟨rfl, hN19⟩ a fr
    replace hV := hV.new hN19
    replace B4 := B4.new hN19
    replace hF := hF.trNew hN19
    rw [hr] at fr
    refine fx_val (v := .bool false) fr rfl rfl (by first | decide | simp) (x_not rfl (fr.ev rfl) rfl) ?_
    clear fr a; intro a fr
    refine fx_val (v := .bool false) fr rfl rfl (by first | decide | simp) (x_move rfl (fr.ev rfl)) ?_
    clear fr a; intro a fr
    refine fx_val (v := .slice P la.length cp) fr (fr.want rfl rfl rfl) rfl (by first | decide | simp) (x_move rfl (fr.ev rfl)) ?_
    clear fr a; intro a fr
    refine fx_val (v := .int .i64 ((la.length : Nat) : Int)) fr (fr.want rfl rfl rfl) rfl (by first | decide | simp) (x_len Try.underlying22 rfl (fr.ev rfl)) ?_
    clear fr a; intro a fr
    refine fx_val (v := .bool false) fr (fr.want rfl rfl rfl) rfl (by first | decide | simp) (x_gtr rfl (fr.ev rfl) rfl (decide_eq_false hx1)) ?_
    clear fr a; intro a fr
    refine fx_val (v := .bool false) fr rfl rfl (by first | decide | simp) (x_pick_f rfl (fr.ev rfl) (fr.ev rfl)) ?_
    clear fr a; intro a fr
    refine fx_val (v := .bool false) fr rfl rfl (by first | decide | simp) (x_move rfl (fr.ev rfl)) ?_
    clear fr a; intro a fr
    refine fx_val (v := .pointer (some ⟨b1, 1, none⟩)) fr (fr.want rfl rfl rfl) rfl (by first | decide | simp) (x_fieldAddr fo57_1 rfl (fr.ev rfl) rfl) ?_
    clear fr a; intro a fr
    refine fx_val (v := .pointer (some ⟨b1, 2, none⟩)) fr (fr.want rfl rfl rfl) rfl (by first | decide | simp) (x_fieldAddr fo39_1 rfl (fr.ev rfl) rfl) ?_
    clear fr a; intro a fr
    refine fx_val (v := .int .i64 q.ln.state) fr (fr.want rfl rfl rfl) rfl (by first | decide | simp) (x_load1 pl36 rfl (fr.ev rfl) (B4.cell 2 rfl)) ?_
    clear fr a; intro a fr
    refine fx_val (v := .bool false) fr (fr.want rfl rfl rfl) rfl (by first | decide | simp) (x_lss rfl (fr.ev rfl) rfl (decide_eq_false hx2)) ?_
    clear fr a; intro a fr
    refine fx_val (v := .bool false) fr rfl rfl (by first | decide | simp) (x_pick_f rfl (fr.ev rfl) (fr.ev rfl)) ?_
    clear fr a; intro a fr
    refine fx_val (v := .bool false) fr rfl rfl (by first | decide | simp) (x_move rfl (fr.ev rfl)) ?_
    clear fr a; intro a fr
    refine fx_val (v := .pointer (some ⟨b1, 1, none⟩)) fr (fr.want rfl rfl rfl) rfl (by first | decide | simp) (x_fieldAddr fo57_1 rfl (fr.ev rfl) rfl) ?_
    clear fr a; intro a fr
    refine fx_val (v := .pointer (some ⟨b1, 2, none⟩)) fr (fr.want rfl rfl rfl) rfl (by first | decide | simp) (x_fieldAddr fo39_1 rfl (fr.ev rfl) rfl) ?_
    clear fr a; intro a fr
    refine fx_val (v := .int .i64 q.ln.state) fr (fr.want rfl rfl rfl) rfl (by first | decide | simp) (x_load1 pl36 rfl (fr.ev rfl) (B4.cell 2 rfl)) ?_
    clear fr a; intro a fr
    refine fx_val (v := .bool false) fr (fr.want rfl rfl rfl) rfl (by first | decide | simp) (x_gtr rfl (fr.ev rfl) rfl (decide_eq_false hx3)) ?_
    clear fr a; intro a fr
    refine fx_val (v := .bool false) fr rfl rfl (by first | decide | simp) (x_pick_f rfl (fr.ev rfl) (fr.ev rfl)) ?_
    clear fr a; intro a fr
    refine wpList_nil ?_
    refine fx_next ?_
    refine fx_cond_f fr rfl ?_
    refine wp_skip ?_
    refine fx_next ?_
    refine wp_seq ?_
    refine wp_region_lit ?_  -- region 3
    refine fx_val (v := .int .i64 ((n : Nat) : Int)) fr rfl rfl (by first | decide | simp) (x_move rfl (fr.ev rfl)) ?_
    clear fr a; intro a fr
    refine fx_val (v := .int .i64 ways) fr rfl rfl (by first | decide | simp) (x_move rfl (fr.ev rfl)) ?_
    clear fr a; intro a fr
    refine fx_call fr rfl rfl (by first | decide | simp) (x_call (vs := [.int .i64 ((n : Nat) : Int), .int .i64 ways]) rfl rfl ⟨(fr.ev rfl), (fr.ev rfl), trivial⟩ Try.func18 nm18 rfl) (new_yes n ways _ hr) ?_
    clear fr a
    rintro v w24 ⟨b20, Fp21, rfl, H22, hb23, hN25⟩ a fr
    have ap2_P_Fp21 : ∀ k, inA P k → Fp21 k → False := symP (new_apart2P hb23 fun _ hg => hV.lt hg)
    have ap_Fp21_b1 : ¬ Fp21 b1 := new_apartP hb23 B4.lt
    have gA_Fp21 := gA_newP hF hb23
    replace hV := hV.new hN25
    replace B4 := B4.new hN25
    replace hF := hF.trNew hN25
    refine fx_val (v := .tuple #[.pointer (some ⟨b20, 0, none⟩), .int .i64 0]) fr rfl rfl (by first | decide | simp) (x_move rfl (fr.ev rfl)) ?_
    clear fr a; intro a fr
    refine fx_val (v := .pointer (some ⟨b20, 0, none⟩)) fr rfl rfl (by first | decide | simp) (x_extract rfl (fr.ev rfl) rfl) ?_
    clear fr a; intro a fr
    refine fx_val (v := .int .i64 0) fr rfl rfl (by first | decide | simp) (x_extract rfl (fr.ev rfl) rfl) ?_
    clear fr a; intro a fr
    refine fx_val (v := .pointer (some ⟨b20, 0, none⟩)) fr rfl rfl (by first | decide | simp) (x_assign rfl (fr.ev rfl)) ?_
    clear fr a; intro a fr
    refine fx_val (v := .int .i64 0) fr rfl rfl (by first | decide | simp) (x_assign rfl (fr.ev rfl)) ?_
    clear fr a; intro a fr
    refine wpList_nil ?_
    refine fx_next ?_
    refine wp_seq ?_
    refine wp_seq ?_
    obtain ⟨hq1, hq2, hq3, hq4⟩ := hrb
    refine wp_region_lit ?_  -- region 4
    refine fx_val (v := .int .i64 0) fr rfl rfl (by first | decide | simp) (x_assign rfl rfl) ?_
    clear fr a; intro a fr
    refine wpList_nil ?_
    refine fx_next ?_
    refine wp_block ?_
    refine fx_loop (fun nM a wL => ∃ L : List Ln, ∃ FpX : Nat → Prop, ∃ i : Nat, nM = la.length - i ∧ Fr (196, []) [(0, .int .i64 ((n : Nat) : Int)), (1, .int .i64 ways), (2, .slice P la.length cp), (4, .int .i64 pick), (8, .pointer (some ⟨b1, 0, none⟩)), (10, .bool false), (11, .pointer (some ⟨b20, 0, none⟩)), (12, .int .i64 0), (13, .int .i64 ((i : Nat) : Int))] a ∧ Only (fun _ => False) w wL ∧ View actE wL P cp la ∧ Blk wL b1 57 (actE.arr q) ∧ LinesAt wL FpX b20 n ways L ∧ i ≤ la.length ∧ L.length ≤ i ∧ (∀ k, inA P k → FpX k → False) ∧ (¬ FpX b1) ∧ (∀ g, FpX g → (fun _ => False) g ∨ w.heap.size ≤ g)) (n0 := _) ⟨[], Fp21, 0, rfl, fr.sub ⟨rfl, rfl, rfl, rfl, rfl, rfl, rfl, rfl, rfl, trivial⟩, hF, hV, B4, H22, by omega, Nat.le_refl _, ap2_P_Fp21, ap_Fp21_b1, gA_Fp21⟩ ?_
    rintro n27 a w26 ⟨L, FpX, i, rfl, fr, hF, hV, B4, H, hi, hLi, ap2_P_FpX, ap_FpX_b1, gA_FpX⟩
    refine wp_seq ?_
    refine wp_seq ?_
    refine wp_region_lit ?_  -- region 5
    refine fx_val (v := .int .i64 ((i : Nat) : Int)) fr rfl rfl (by first | decide | simp) (x_move rfl (fr.ev rfl)) ?_
    clear fr a; intro a fr
    refine fx_val (v := .slice P la.length cp) fr rfl rfl (by first | decide | simp) (x_move rfl (fr.ev rfl)) ?_
    clear fr a; intro a fr
    refine fx_val (v := .int .i64 ((la.length : Nat) : Int)) fr rfl rfl (by first | decide | simp) (x_len Try.underlying22 rfl (fr.ev rfl)) ?_
    clear fr a; intro a fr
    refine fx_val (v := .bool (decide (((i : Nat) : Int) < ((la.length : Nat) : Int)))) fr rfl rfl (by first | decide | simp) (x_lss rfl (fr.ev rfl) (fr.ev rfl) rfl) ?_
    clear fr a; intro a fr
    refine wpList_nil ?_
    refine fx_next ?_
    refine fx_cond fr rfl (fun hc28 => ?_) (fun hc28 => ?_)
    · skip
      have hc28 := of_decide_eq_true hc28
      refine wp_skip ?_
      refine fx_next ?_
      refine wp_seq ?_
      refine wp_block ?_
      refine wp_seq ?_
      have hxn := (la.getD i act0).ln.hn
      refine wp_region_lit ?_  -- region 7
      refine fx_val (v := .slice P la.length cp) fr rfl rfl (by first | decide | simp) (x_move rfl (fr.ev rfl)) ?_
      clear fr a; intro a fr
      refine fx_val (v := .int .i64 ((i : Nat) : Int)) fr rfl rfl (by first | decide | simp) (x_move rfl (fr.ev rfl)) ?_
      clear fr a; intro a fr
      obtain ⟨g29, o30, hA31⟩ := (hV).some_ (by omega)
      refine fx_val (v := .pointer (some ⟨g29, o30 + i * 19, none⟩)) fr rfl rfl (by first | decide | simp) (x_indexV Try.underlying22 sz57 rfl (fr.ev rfl) hA31 (fr.ev rfl) (by omega) rfl) ?_
      clear fr a; intro a fr
      refine fx_val (v := .pointer (some ⟨g29, o30 + i * 19, none⟩)) fr rfl rfl (by first | decide | simp) (x_fieldAddr fo57_0 rfl (fr.ev rfl) rfl) ?_
      clear fr a; intro a fr
      refine fx_val (v := .int .i64 ((la.getD i act0).what)) fr rfl rfl (by first | decide | simp) (x_load1 pl3 rfl (fr.ev rfl) (range_cell ((hV).elem hA31 i act0 (by omega)) 0 rfl rfl)) ?_
      clear fr a; intro a fr
      refine fx_val (v := .bool (decide ((la.getD i act0).what ≠ 0))) fr rfl rfl (by first | decide | simp) (x_neq rfl (fr.ev rfl) rfl rfl) ?_
      clear fr a; intro a fr
      refine wpList_nil ?_
      refine fx_next ?_
      refine fx_cond fr rfl (fun hc32 => ?_) (fun hc32 => ?_)
      · skip
        have hc32 := of_decide_eq_true hc32
        refine wp_region_lit ?_  -- region 8
        refine fx_val (v := .pointer (some ⟨b20, 0, none⟩)) fr rfl rfl (by first | decide | simp) (x_move rfl (fr.ev rfl)) ?_
        clear fr a; intro a fr
        refine fx_val (v := .slice P la.length cp) fr rfl rfl (by first | decide | simp) (x_move rfl (fr.ev rfl)) ?_
        clear fr a; intro a fr
        refine fx_val (v := .int .i64 ((i : Nat) : Int)) fr rfl rfl (by first | decide | simp) (x_move rfl (fr.ev rfl)) ?_
        clear fr a; intro a fr
        refine fx_val (v := .pointer (some ⟨g29, o30 + i * 19, none⟩)) fr rfl rfl (by first | decide | simp) (x_indexV Try.underlying22 sz57 rfl (fr.ev rfl) hA31 (fr.ev rfl) (by omega) rfl) ?_
        clear fr a; intro a fr
        refine fx_val (v := .pointer (some ⟨g29, o30 + i * 19 + 1, none⟩)) fr rfl rfl (by first | decide | simp) (x_fieldAddr fo57_1 rfl (fr.ev rfl) rfl) ?_
        clear fr a; intro a fr
        refine fx_val (v := .pointer (some ⟨g29, o30 + i * 19 + 1, none⟩)) fr rfl rfl (by first | decide | simp) (x_fieldAddr fo39_0 rfl (fr.ev rfl) rfl) ?_
        clear fr a; intro a fr
        refine fx_val (v := .int .u32 ((la.getD i act0).ln.num)) fr rfl rfl (by first | decide | simp) (x_load1 pl33 rfl (fr.ev rfl) (range_cell ((hV).elem hA31 i act0 (by omega)) 1 rfl rfl)) ?_
        clear fr a; intro a fr
        refine fx_call fr rfl rfl (by first | decide | simp) (x_call (vs := [.pointer (some ⟨b20, 0, none⟩), .int .u32 ((la.getD i act0).ln.num)]) rfl rfl ⟨(fr.ev rfl), (fr.ev rfl), trivial⟩ Try.func22 nm22 rfl) (drop_c ((la.getD i act0).ln.num) (by omega) H) ?_
        clear fr a
        rintro v w36 ⟨rfl, Fp33, H34, hN37, mv35⟩ a fr
        have ap2_Fp33_P : ∀ k, Fp33 k → inA P k → False := moved_apart2P mv35 (symP ap2_P_FpX) fun _ hg => hV.lt hg
        have ap_Fp33_b1 : ¬ Fp33 b1 := moved_apartP mv35 ap_FpX_b1 B4.lt
        have gA_Fp33 := gA_movedP hF mv35 gA_FpX
        replace hV := hV.only hN37 (fun g h1 h2 => ap2_P_FpX g h1 h2)
        replace B4 := B4.only hN37 ap_FpX_b1
        replace hF := hF.locP hN37 gA_FpX
        clear H
        rw [fnd_get L ((la.getD i act0).ln.num)] at fr
        refine wpList_nil ?_
        refine fx_blk ?_
        refine fx_next ?_
        refine wp_region_lit ?_  -- region 6
        refine fx_val (v := .int .i64 ((i : Nat) : Int)) fr rfl rfl (by first | decide | simp) (x_move rfl (fr.ev rfl)) ?_
        clear fr a; intro a fr
        refine fx_val (v := .int .i64 ((i + 1 : Nat) : Int)) fr rfl rfl (by first | decide | simp) (x_add rfl (fr.ev rfl) rfl (i64w (r := ((i + 1 : Nat) : Int)) (by omega) (by omega))) ?_
        clear fr a; intro a fr
        refine fx_val (v := .int .i64 ((i + 1 : Nat) : Int)) fr rfl rfl (by first | decide | simp) (x_assign rfl (fr.ev rfl)) ?_
        clear fr a; intro a fr
        refine wpList_nil ?_
        refine fx_next ?_
        exact ⟨_, by omega, (dropL L ((la.getD i act0).ln.num)), Fp33, (i + 1), rfl, fr.sub ⟨rfl, rfl, rfl, rfl, rfl, rfl, rfl, rfl, rfl, trivial⟩, hF, hV, B4, H34, by omega, (by have := dropL_le L (la.getD i act0).ln.num; omega), (symP ap2_Fp33_P), ap_Fp33_b1, gA_Fp33⟩
      · skip
        have hc32 := of_decide_eq_false hc32
        refine wp_region_lit ?_  -- region 9
        refine fx_val (v := .pointer (some ⟨b20, 0, none⟩)) fr rfl rfl (by first | decide | simp) (x_move rfl (fr.ev rfl)) ?_
        clear fr a; intro a fr
        refine fx_val (v := .slice P la.length cp) fr rfl rfl (by first | decide | simp) (x_move rfl (fr.ev rfl)) ?_
        clear fr a; intro a fr
        refine fx_val (v := .int .i64 ((i : Nat) : Int)) fr rfl rfl (by first | decide | simp) (x_move rfl (fr.ev rfl)) ?_
        clear fr a; intro a fr
        refine fx_val (v := .pointer (some ⟨g29, o30 + i * 19, none⟩)) fr rfl rfl (by first | decide | simp) (x_indexV Try.underlying22 sz57 rfl (fr.ev rfl) hA31 (fr.ev rfl) (by omega) rfl) ?_
        clear fr a; intro a fr
        refine fx_val (v := .pointer (some ⟨g29, o30 + i * 19 + 1, none⟩)) fr rfl rfl (by first | decide | simp) (x_fieldAddr fo57_1 rfl (fr.ev rfl) rfl) ?_
        clear fr a; intro a fr
        refine fx_val (v := .agg (lnE.arr ((la.getD i act0).ln))) fr rfl rfl (by first | decide | simp) (x_loadE (E := lnE) ag39 rfl rfl (fr.ev rfl) (range_sub ((hV).elem hA31 i act0 (by omega)) 1 18 (act_ln _) rfl)) ?_
        clear fr a; intro a fr
        refine fx_call fr rfl rfl (by first | decide | simp) (x_call (vs := [.pointer (some ⟨b20, 0, none⟩), .agg (lnE.arr ((la.getD i act0).ln))]) rfl rfl ⟨(fr.ev rfl), (fr.ev rfl), trivial⟩ Try.func21 nm21 rfl) (put_c ((la.getD i act0).ln) H) ?_
        clear fr a
        rintro v w41 ⟨rfl, Fp38, H39, hN42, mv40⟩ a fr
        have ap2_Fp38_P : ∀ k, Fp38 k → inA P k → False := moved_apart2P mv40 (symP ap2_P_FpX) fun _ hg => hV.lt hg
        have ap_Fp38_b1 : ¬ Fp38 b1 := moved_apartP mv40 ap_FpX_b1 B4.lt
        have gA_Fp38 := gA_movedP hF mv40 gA_FpX
        replace hV := hV.only hN42 (fun g h1 h2 => ap2_P_FpX g h1 h2)
        replace B4 := B4.only hN42 ap_FpX_b1
        replace hF := hF.locP hN42 gA_FpX
        clear H
        refine wpList_nil ?_
        refine fx_blk ?_
        refine fx_next ?_
        refine wp_region_lit ?_  -- region 6
        refine fx_val (v := .int .i64 ((i : Nat) : Int)) fr rfl rfl (by first | decide | simp) (x_move rfl (fr.ev rfl)) ?_
        clear fr a; intro a fr
        refine fx_val (v := .int .i64 ((i + 1 : Nat) : Int)) fr rfl rfl (by first | decide | simp) (x_add rfl (fr.ev rfl) rfl (i64w (r := ((i + 1 : Nat) : Int)) (by omega) (by omega))) ?_
        clear fr a; intro a fr
        refine fx_val (v := .int .i64 ((i + 1 : Nat) : Int)) fr rfl rfl (by first | decide | simp) (x_assign rfl (fr.ev rfl)) ?_
        clear fr a; intro a fr
        refine wpList_nil ?_
        refine fx_next ?_
        exact ⟨_, by omega, (putL n ways L ((la.getD i act0).ln)), Fp38, (i + 1), rfl, fr.sub ⟨rfl, rfl, rfl, rfl, rfl, rfl, rfl, rfl, rfl, trivial⟩, hF, hV, B4, H39, by omega, (by have := putL_le n ways L (la.getD i act0).ln; omega), (symP ap2_Fp38_P), ap_Fp38_b1, gA_Fp38⟩
    · skip
      have hc28 := of_decide_eq_false hc28
      refine wp_exit ?_
      refine fx_xt ?_
      refine fx_xt ?_
      refine fx_xx ?_
      refine fx_next ?_
      refine wp_seq ?_
      refine wp_region_lit ?_  -- region 10
      refine fx_val (v := .pointer (some ⟨b20, 0, none⟩)) fr rfl rfl (by first | decide | simp) (x_move rfl (fr.ev rfl)) ?_
      clear fr a; intro a fr
      refine fx_call fr rfl rfl (by first | decide | simp) (x_call (vs := [.pointer (some ⟨b20, 0, none⟩)]) rfl rfl ⟨(fr.ev rfl), trivial⟩ Try.func24 nm24 rfl) (lall_c H (by omega)) ?_
      clear fr a
      rintro v w47 ⟨A43, cap44, rfl, O45, hA46, hN48⟩ a fr
      have ap2_P_A43 : Apart2 P A43 := (new_apart2 hA46 fun _ hg => hV.lt hg).symm
      have ap_A43_b1 : Apart A43 b1 := new_apart hA46 B4.lt
      have ap2_FpX_A43 : ∀ k, FpX k → inA A43 k → False := symP (new_apart2P hA46 fun _ hg => H.lt hg)
      have gA_A43 := gA_new hF hA46
      replace hV := hV.new hN48
      replace B4 := B4.new hN48
      replace H := H.new hN48
      replace hF := hF.trNew hN48
      refine fx_val (v := .slice A43 ((allL n L).length) cap44) fr rfl rfl (by first | decide | simp) (x_assign rfl (fr.ev rfl)) ?_
      clear fr a; intro a fr
      refine wpList_nil ?_
      refine fx_next ?_
      refine wp_seq ?_
      have hu := H.uniq
      have hft := H.fits
      have hqn := q.ln.hn
      have hst : 1 ≤ q.ln.state ∧ q.ln.state ≤ 3 := by omega
      have hpl := putL_le n ways L q.ln
      rcases put_ways n ways L q.ln hst with he | ⟨he, hpe, hgn, hww⟩
      · skip
        have hfind := get_put_same he
        have hkeep := kept_put (n := n) (ways := ways) (l := q.ln) hu ln0
        refine wp_region_lit ?_  -- region 11
        refine fx_val (v := .pointer (some ⟨b20, 0, none⟩)) fr rfl rfl (by first | decide | simp) (x_move rfl (fr.ev rfl)) ?_
        clear fr a; intro a fr
        refine fx_val (v := .pointer (some ⟨b1, 1, none⟩)) fr rfl rfl (by first | decide | simp) (x_fieldAddr fo57_1 rfl (fr.ev rfl) rfl) ?_
        clear fr a; intro a fr
        refine fx_val (v := .agg (lnE.arr q.ln)) fr rfl rfl (by first | decide | simp) (x_loadE (E := lnE) ag39 rfl rfl (fr.ev rfl) (B4.part (act_lnA _))) ?_
        clear fr a; intro a fr
        refine fx_call fr rfl rfl (by first | decide | simp) (x_call (vs := [.pointer (some ⟨b20, 0, none⟩), .agg (lnE.arr q.ln)]) rfl rfl ⟨(fr.ev rfl), (fr.ev rfl), trivial⟩ Try.func21 nm21 rfl) (put_c q.ln H) ?_
        clear fr a
        rintro v w52 ⟨rfl, Fp49, H50, hN53, mv51⟩ a fr
        have ap2_Fp49_P : ∀ k, Fp49 k → inA P k → False := moved_apart2P mv51 (symP ap2_P_FpX) fun _ hg => hV.lt hg
        have ap_Fp49_b1 : ¬ Fp49 b1 := moved_apartP mv51 ap_FpX_b1 B4.lt
        have ap2_Fp49_A43 : ∀ k, Fp49 k → inA A43 k → False := moved_apart2P mv51 ap2_FpX_A43 fun _ hg => O45.lt hg
        have gA_Fp49 := gA_movedP hF mv51 gA_FpX
        replace hV := hV.only hN53 (fun g h1 h2 => ap2_P_FpX g h1 h2)
        replace B4 := B4.only hN53 ap_FpX_b1
        replace O45 := O45.only hN53 (fun g h1 h2 => (symP ap2_FpX_A43) g h1 h2)
        replace hF := hF.locP hN53 gA_FpX
        clear H
        rw [he] at fr
        refine fx_val (v := .int .i64 0) fr rfl rfl (by first | decide | simp) (x_assign rfl (fr.ev rfl)) ?_
        clear fr a; intro a fr
        refine wpList_nil ?_
        refine fx_next ?_
        refine wp_seq ?_
        have hal := allL_len hq1 L
        refine wp_region_lit ?_  -- region 12
        refine fx_val (v := .agg (lnE.arr ln0)) fr rfl rfl (by first | decide | simp) (x_build (cells := lnE.arr ln0) rfl (by kernel_rfl)) ?_
        clear fr a; intro a fr
        refine fx_new fr rfl rfl (by first | decide | simp) (x_alloc (z := .agg (#[.int .u32 0, .int .i64 0, .int .u8 0, .int .u8 0, .int .u8 0, .int .u8 0, .int .u8 0, .int .u8 0, .int .u8 0, .int .u8 0, .int .u8 0, .int .u8 0, .int .u8 0, .int .u8 0, .int .u8 0, .int .u8 0, .int .u8 0, .int .u8 0])) (cs := lnE.arr ln0) rfl (by kernel_rfl) rfl) ?_
        clear fr a
        intro b54 w55 hN56 B57 hb58 a fr
        have ap_P_b54 : Apart P b54 := hV.apart hb58
        have ne_b1_b54 : NE b1 b54 := NE.mk (Nat.lt_of_lt_of_le B4.lt hb58)
        have ap_A43_b54 : Apart A43 b54 := O45.apart hb58
        have ap_Fp49_b54 : ¬ Fp49 b54 := H50.apart hb58
        have g_b54 := Nat.le_trans hF.size hb58
        replace hV := hV.new hN56
        replace B4 := B4.new hN56
        replace O45 := O45.new hN56
        replace H50 := H50.new hN56
        replace hF := hF.trNew hN56
        refine fx_storeS sz39 rfl rfl rfl (fr.ev rfl) (fr.ev rfl) (lnE.all _) B57 (lnE.size _) (lnE.size _) fun w59 hO60 hBq => ?_
        replace hV := hV.only hO60 (Apart.ne1 ap_P_b54)
        replace B4 := B4.only hO60 (by first | exact ne_b1_b54 | exact ne_b54_b1.symm | (show ¬ b1 = b54; omega))
        replace O45 := O45.only hO60 (Apart.ne1 ap_A43_b54)
        replace H50 := H50.only hO60 (ne1P ap_Fp49_b54)
        replace hF := hF.loc hO60 (.inr g_b54)
        replace B57 := hBq
        clear hBq
        refine wpList_nil ?_
        refine fx_next ?_
        refine wp_seq ?_
        refine wp_seq ?_
        refine wp_region_lit ?_  -- region 13
        refine fx_val (v := .int .i64 0) fr rfl rfl (by first | decide | simp) (x_move rfl (fr.ev rfl)) ?_
        clear fr a; intro a fr
        refine fx_call fr rfl rfl (by first | decide | simp) (x_call (vs := [.int .i64 0]) rfl rfl ⟨(fr.ev rfl), trivial⟩ Try.func20 nm20 rfl) (num_c 0 _) ?_
        clear fr a
        rintro v w9 ⟨rfl, hw9⟩ a fr
        obtain rfl := hw9.symm
        refine fx_val (v := .bool false) fr rfl rfl (by first | decide | simp) (x_eql rfl (fr.ev rfl) rfl rfl) ?_
        clear fr a; intro a fr
        refine wpList_nil ?_
        refine fx_next ?_
        refine fx_cond_f fr rfl ?_
        refine wp_skip ?_
        refine fx_next ?_
        refine wp_seq ?_
        refine wp_region_lit ?_  -- region 19
        refine fx_val (v := .pointer (some ⟨b20, 0, none⟩)) fr rfl rfl (by first | decide | simp) (x_move rfl (fr.ev rfl)) ?_
        clear fr a; intro a fr
        refine fx_val (v := .pointer (some ⟨b1, 1, none⟩)) fr rfl rfl (by first | decide | simp) (x_fieldAddr fo57_1 rfl (fr.ev rfl) rfl) ?_
        clear fr a; intro a fr
        refine fx_val (v := .pointer (some ⟨b1, 1, none⟩)) fr rfl rfl (by first | decide | simp) (x_fieldAddr fo39_0 rfl (fr.ev rfl) rfl) ?_
        clear fr a; intro a fr
        refine fx_val (v := .int .u32 q.ln.num) fr rfl rfl (by first | decide | simp) (x_load1 pl33 rfl (fr.ev rfl) (B4.cell 1 rfl)) ?_
        clear fr a; intro a fr
        refine fx_call fr rfl rfl (by first | decide | simp) (x_call (vs := [.pointer (some ⟨b20, 0, none⟩), .int .u32 q.ln.num]) rfl rfl ⟨(fr.ev rfl), (fr.ev rfl), trivial⟩ Try.func14 nm14 rfl) (find_c q.ln.num (by omega) H50) ?_
        clear fr a
        rintro v w63 ⟨rfl, hN64⟩ a fr
        replace hV := hV.new hN64
        replace B4 := B4.new hN64
        replace O45 := O45.new hN64
        replace H50 := H50.new hN64
        replace B57 := B57.new hN64
        replace hF := hF.trNew hN64
        rw [show getN (putL n ways L q.ln) q.ln.num = some q.ln from hfind] at fr
        simp only [Option.getD_some, Option.isSome_some] at fr
        refine fx_val (v := .tuple #[.agg (lnE.arr q.ln), .bool true]) fr rfl rfl (by first | decide | simp) (x_move rfl (fr.ev rfl)) ?_
        clear fr a; intro a fr
        refine fx_val (v := .agg (lnE.arr q.ln)) fr rfl rfl (by first | decide | simp) (x_extract rfl (fr.ev rfl) rfl) ?_
        clear fr a; intro a fr
        refine fx_val (v := .bool true) fr rfl rfl (by first | decide | simp) (x_extract rfl (fr.ev rfl) rfl) ?_
        clear fr a; intro a fr
        refine fx_new fr rfl rfl (by first | decide | simp) (x_alloc (z := .agg (#[.int .u32 0, .int .i64 0, .int .u8 0, .int .u8 0, .int .u8 0, .int .u8 0, .int .u8 0, .int .u8 0, .int .u8 0, .int .u8 0, .int .u8 0, .int .u8 0, .int .u8 0, .int .u8 0, .int .u8 0, .int .u8 0, .int .u8 0, .int .u8 0])) (cs := lnE.arr ln0) rfl (by kernel_rfl) rfl) ?_
        clear fr a
        intro b65 w66 hN67 B68 hb69 a fr
        have ap_P_b65 : Apart P b65 := hV.apart hb69
        have ne_b1_b65 : NE b1 b65 := NE.mk (Nat.lt_of_lt_of_le B4.lt hb69)
        have ap_A43_b65 : Apart A43 b65 := O45.apart hb69
        have ap_Fp49_b65 : ¬ Fp49 b65 := H50.apart hb69
        have ne_b54_b65 : NE b54 b65 := NE.mk (Nat.lt_of_lt_of_le B57.lt hb69)
        have g_b65 := Nat.le_trans hF.size hb69
        replace hV := hV.new hN67
        replace B4 := B4.new hN67
        replace O45 := O45.new hN67
        replace H50 := H50.new hN67
        replace B57 := B57.new hN67
        replace hF := hF.trNew hN67
        refine fx_storeS sz39 rfl rfl rfl (fr.ev rfl) (fr.ev rfl) (lnE.all _) B68 (lnE.size _) (lnE.size _) fun w70 hO71 hBq => ?_
        replace hV := hV.only hO71 (Apart.ne1 ap_P_b65)
        replace B4 := B4.only hO71 (by first | exact ne_b1_b65 | exact ne_b65_b1.symm | (show ¬ b1 = b65; omega))
        replace O45 := O45.only hO71 (Apart.ne1 ap_A43_b65)
        replace H50 := H50.only hO71 (ne1P ap_Fp49_b65)
        replace B57 := B57.only hO71 (by first | exact ne_b54_b65 | exact ne_b65_b54.symm | (show ¬ b54 = b65; omega))
        replace hF := hF.loc hO71 (.inr g_b65)
        replace B68 := hBq
        clear hBq
        refine fx_val (v := .bool true) fr rfl rfl (by first | decide | simp) (x_assign rfl (fr.ev rfl)) ?_
        clear fr a; intro a fr
        refine wpList_nil ?_
        refine fx_next ?_
        refine wp_seq ?_
        refine wp_seq ?_
        refine wp_region_lit ?_  -- region 20
        refine fx_val (v := .int .i64 0) fr rfl rfl (by first | decide | simp) (x_move rfl (fr.ev rfl)) ?_
        clear fr a; intro a fr
        refine fx_call fr rfl rfl (by first | decide | simp) (x_call (vs := [.int .i64 0]) rfl rfl ⟨(fr.ev rfl), trivial⟩ Try.func20 nm20 rfl) (num_c 0 _) ?_
        clear fr a
        rintro v w9 ⟨rfl, hw9⟩ a fr
        obtain rfl := hw9.symm
        refine fx_val (v := .int .i64 0) fr rfl rfl (by first | decide | simp) (x_move rfl (fr.ev rfl)) ?_
        clear fr a; intro a fr
        refine fx_call fr rfl rfl (by first | decide | simp) (x_call (vs := [.int .i64 0]) rfl rfl ⟨(fr.ev rfl), trivial⟩ Try.func20 nm20 rfl) (num_c 0 _) ?_
        clear fr a
        rintro v w9 ⟨rfl, hw9⟩ a fr
        obtain rfl := hw9.symm
        refine fx_val (v := .int .i64 0) fr rfl rfl (by first | decide | simp) (x_add rfl (fr.ev rfl) (fr.ev rfl) rfl) ?_
        clear fr a; intro a fr
        refine fx_val (v := .bool false) fr rfl rfl (by first | decide | simp) (x_neq rfl (fr.ev rfl) rfl rfl) ?_
        clear fr a; intro a fr
        refine fx_val (v := .bool false) fr rfl rfl (by first | decide | simp) (x_move rfl (fr.ev rfl)) ?_
        clear fr a; intro a fr
        refine fx_val (v := .agg (lnE.arr q.ln)) fr (fr.want rfl rfl rfl) rfl (by first | decide | simp) (x_loadE (E := lnE) ag39 rfl rfl (fr.ev rfl) (B68.rangeE lnE)) ?_
        clear fr a; intro a fr
        refine fx_val (v := .pointer (some ⟨b1, 1, none⟩)) fr (fr.want rfl rfl rfl) rfl (by first | decide | simp) (x_fieldAddr fo57_1 rfl (fr.ev rfl) rfl) ?_
        clear fr a; intro a fr
        refine fx_val (v := .agg (lnE.arr q.ln)) fr (fr.want rfl rfl rfl) rfl (by first | decide | simp) (x_loadE (E := lnE) ag39 rfl rfl (fr.ev rfl) (B4.part (act_lnA _))) ?_
        clear fr a; intro a fr
        refine fx_val (v := .bool false) fr (fr.want rfl rfl rfl) rfl (by first | decide | simp) (x_neE lnER rfl rfl (fr.ev rfl) (fr.ev rfl) (by simp)) ?_
        clear fr a; intro a fr
        refine fx_val (v := .bool false) fr rfl rfl (by first | decide | simp) (x_pick_f rfl (fr.ev rfl) (fr.ev rfl)) ?_
        clear fr a; intro a fr
        refine fx_val (v := .bool false) fr rfl rfl (by first | decide | simp) (x_move rfl (fr.ev rfl)) ?_
        clear fr a; intro a fr
        refine fx_val (v := .bool true) fr (fr.want rfl rfl rfl) rfl (by first | decide | simp) (x_move rfl (fr.ev rfl)) ?_
        clear fr a; intro a fr
        refine fx_val (v := .bool false) fr (fr.want rfl rfl rfl) rfl (by first | decide | simp) (x_not rfl (fr.ev rfl) rfl) ?_
        clear fr a; intro a fr
        refine fx_val (v := .bool false) fr rfl rfl (by first | decide | simp) (x_pick_f rfl (fr.ev rfl) (fr.ev rfl)) ?_
        clear fr a; intro a fr
        refine wpList_nil ?_
        refine fx_next ?_
        refine fx_cond_f fr rfl ?_
        refine wp_skip ?_
        refine fx_next ?_
        refine wp_seq ?_
        refine wp_seq ?_
        refine wp_region_lit ?_  -- region 22
        refine fx_val (v := .int .i64 0) fr rfl rfl (by first | decide | simp) (x_assign rfl rfl) ?_
        clear fr a; intro a fr
        refine wpList_nil ?_
        refine fx_next ?_
        refine wp_block ?_
        refine fx_loop (fun nM a wL => ∃ j : Nat, nM = (allL n L).length - j ∧ Fr (196, []) [(8, .pointer (some ⟨b1, 0, none⟩)), (10, .bool false), (11, .pointer (some ⟨b20, 0, none⟩)), (14, .slice A43 ((allL n L).length) cap44), (16, .pointer (some ⟨b54, 0, none⟩)), (21, .int .i64 ((j : Nat) : Int))] a ∧ Only (fun _ => False) w wL ∧ View actE wL P cp la ∧ Blk wL b1 57 (actE.arr q) ∧ Own lnE wL A43 cap44 (allL n L) ∧ LinesAt wL Fp49 b20 n ways (putL n ways L q.ln) ∧ Blk wL b54 39 (lnE.arr ln0) ∧ Blk wL b65 39 (lnE.arr q.ln) ∧ j ≤ (allL n L).length) (n0 := _) ⟨0, rfl, fr.sub ⟨rfl, rfl, rfl, rfl, rfl, rfl, trivial⟩, hF, hV, B4, O45, H50, B57, B68, by omega⟩ ?_
        rintro n77 a w76 ⟨j, rfl, fr, hF, hV, B4, O45, H50, B57, B68, hj⟩
        refine wp_seq ?_
        refine wp_seq ?_
        refine wp_region_lit ?_  -- region 23
        refine fx_val (v := .int .i64 ((j : Nat) : Int)) fr rfl rfl (by first | decide | simp) (x_move rfl (fr.ev rfl)) ?_
        clear fr a; intro a fr
        refine fx_val (v := .slice A43 ((allL n L).length) cap44) fr rfl rfl (by first | decide | simp) (x_move rfl (fr.ev rfl)) ?_
        clear fr a; intro a fr
        refine fx_val (v := .int .i64 (((allL n L).length : Nat) : Int)) fr rfl rfl (by first | decide | simp) (x_len Try.underlying26 rfl (fr.ev rfl)) ?_
        clear fr a; intro a fr
        refine fx_val (v := .bool (decide (((j : Nat) : Int) < (((allL n L).length : Nat) : Int)))) fr rfl rfl (by first | decide | simp) (x_lss rfl (fr.ev rfl) (fr.ev rfl) rfl) ?_
        clear fr a; intro a fr
        refine wpList_nil ?_
        refine fx_next ?_
        refine fx_cond fr rfl (fun hc78 => ?_) (fun hc78 => ?_)
        · skip
          have hc78 := of_decide_eq_true hc78
          refine wp_skip ?_
          refine fx_next ?_
          refine wp_seq ?_
          refine wp_block ?_
          refine wp_seq ?_
          have hwm : ((allL n L).getD j ln0) ∈ L := mem_allL (getD_mem (by omega))
          have hwn := ((allL n L).getD j ln0).hn
          rcases Decidable.em (((allL n L).getD j ln0).num = q.ln.num) with h1 | h1
          · skip
            refine wp_region_lit ?_  -- region 25
            refine fx_val (v := .pointer (some ⟨b20, 0, none⟩)) fr rfl rfl (by first | decide | simp) (x_move rfl (fr.ev rfl)) ?_
            clear fr a; intro a fr
            refine fx_val (v := .slice A43 ((allL n L).length) cap44) fr rfl rfl (by first | decide | simp) (x_move rfl (fr.ev rfl)) ?_
            clear fr a; intro a fr
            refine fx_val (v := .int .i64 ((j : Nat) : Int)) fr rfl rfl (by first | decide | simp) (x_move rfl (fr.ev rfl)) ?_
            clear fr a; intro a fr
            obtain ⟨g79, o80, hA81⟩ := (O45.view).some_ (by omega)
            refine fx_val (v := .pointer (some ⟨g79, o80 + j * 18, none⟩)) fr rfl rfl (by first | decide | simp) (x_indexV Try.underlying26 sz39 rfl (fr.ev rfl) hA81 (fr.ev rfl) (by omega) rfl) ?_
            clear fr a; intro a fr
            refine fx_val (v := .pointer (some ⟨g79, o80 + j * 18, none⟩)) fr rfl rfl (by first | decide | simp) (x_fieldAddr fo39_0 rfl (fr.ev rfl) rfl) ?_
            clear fr a; intro a fr
            refine fx_val (v := .int .u32 (((allL n L).getD j ln0).num)) fr rfl rfl (by first | decide | simp) (x_load1 pl33 rfl (fr.ev rfl) (range_cell ((O45.view).elem hA81 j ln0 (by omega)) 0 rfl rfl)) ?_
            clear fr a; intro a fr
            refine fx_call fr rfl rfl (by first | decide | simp) (x_call (vs := [.pointer (some ⟨b20, 0, none⟩), .int .u32 (((allL n L).getD j ln0).num)]) rfl rfl ⟨(fr.ev rfl), (fr.ev rfl), trivial⟩ Try.func14 nm14 rfl) (find_c (((allL n L).getD j ln0).num) (by omega) H50) ?_
            clear fr a
            rintro v w82 ⟨rfl, hN83⟩ a fr
            replace hV := hV.new hN83
            replace B4 := B4.new hN83
            replace O45 := O45.new hN83
            replace H50 := H50.new hN83
            replace B57 := B57.new hN83
            replace B68 := B68.new hN83
            replace hF := hF.trNew hN83
            refine fx_val (v := .tuple #[.agg (lnE.arr ((getN (putL n ways L q.ln) (((allL n L).getD j ln0).num)).getD ln0)), .bool ((getN (putL n ways L q.ln) (((allL n L).getD j ln0).num)).isSome)]) fr rfl rfl (by first | decide | simp) (x_move rfl (fr.ev rfl)) ?_
            clear fr a; intro a fr
            refine fx_val (v := .agg (lnE.arr ((getN (putL n ways L q.ln) (((allL n L).getD j ln0).num)).getD ln0))) fr rfl rfl (by first | decide | simp) (x_extract rfl (fr.ev rfl) rfl) ?_
            clear fr a; intro a fr
            refine fx_val (v := .bool ((getN (putL n ways L q.ln) (((allL n L).getD j ln0).num)).isSome)) fr rfl rfl (by first | decide | simp) (x_extract rfl (fr.ev rfl) rfl) ?_
            clear fr a; intro a fr
            refine fx_new fr rfl rfl (by first | decide | simp) (x_alloc (z := .agg (#[.int .u32 0, .int .i64 0, .int .u8 0, .int .u8 0, .int .u8 0, .int .u8 0, .int .u8 0, .int .u8 0, .int .u8 0, .int .u8 0, .int .u8 0, .int .u8 0, .int .u8 0, .int .u8 0, .int .u8 0, .int .u8 0, .int .u8 0, .int .u8 0])) (cs := lnE.arr ln0) rfl (by kernel_rfl) rfl) ?_
            clear fr a
            intro b84 w85 hN86 B87 hb88 a fr
            have ap_P_b84 : Apart P b84 := hV.apart hb88
            have ne_b1_b84 : NE b1 b84 := NE.mk (Nat.lt_of_lt_of_le B4.lt hb88)
            have ap_A43_b84 : Apart A43 b84 := O45.apart hb88
            have ap_Fp49_b84 : ¬ Fp49 b84 := H50.apart hb88
            have ne_b54_b84 : NE b54 b84 := NE.mk (Nat.lt_of_lt_of_le B57.lt hb88)
            have ne_b65_b84 : NE b65 b84 := NE.mk (Nat.lt_of_lt_of_le B68.lt hb88)
            have g_b84 := Nat.le_trans hF.size hb88
            replace hV := hV.new hN86
            replace B4 := B4.new hN86
            replace O45 := O45.new hN86
            replace H50 := H50.new hN86
            replace B57 := B57.new hN86
            replace B68 := B68.new hN86
            replace hF := hF.trNew hN86
            refine fx_storeS sz39 rfl rfl rfl (fr.ev rfl) (fr.ev rfl) (lnE.all _) B87 (lnE.size _) (lnE.size _) fun w89 hO90 hBq => ?_
            replace hV := hV.only hO90 (Apart.ne1 ap_P_b84)
            replace B4 := B4.only hO90 (by first | exact ne_b1_b84 | exact ne_b84_b1.symm | (show ¬ b1 = b84; omega))
            replace O45 := O45.only hO90 (Apart.ne1 ap_A43_b84)
            replace H50 := H50.only hO90 (ne1P ap_Fp49_b84)
            replace B57 := B57.only hO90 (by first | exact ne_b54_b84 | exact ne_b84_b54.symm | (show ¬ b54 = b84; omega))
            replace B68 := B68.only hO90 (by first | exact ne_b65_b84 | exact ne_b84_b65.symm | (show ¬ b65 = b84; omega))
            replace hF := hF.loc hO90 (.inr g_b84)
            replace B87 := hBq
            clear hBq
            refine fx_val (v := .bool ((getN (putL n ways L q.ln) (((allL n L).getD j ln0).num)).isSome)) fr rfl rfl (by first | decide | simp) (x_assign rfl (fr.ev rfl)) ?_
            clear fr a; intro a fr
            refine wpList_nil ?_
            refine fx_next ?_
            refine wp_seq ?_
            refine fx_held (n := 29) (fun w => View actE w P cp la ∧ Blk w b1 57 (actE.arr q) ∧ Own lnE w A43 cap44 (allL n L) ∧ Blk w b54 39 (lnE.arr ln0) ∧ Blk w b65 39 (lnE.arr q.ln) ∧ Blk w b84 39 (lnE.arr ((getN (putL n ways L q.ln) (((allL n L).getD j ln0).num)).getD ln0)) ∧ True) (by kernel_rfl) rfl ?_  -- region 26
            intro w91 hN92
            replace hV := hV.new hN92
            replace B4 := B4.new hN92
            replace O45 := O45.new hN92
            replace H50 := H50.new hN92
            replace B57 := B57.new hN92
            replace B68 := B68.new hN92
            replace B87 := B87.new hN92
            replace hF := hF.trNew hN92
            refine fx_take (i := 0) (v := .slice A43 ((allL n L).length) cap44) fr rfl (by kernel_rfl) rfl rfl (by first | decide | simp) (fun _ _ _ h => h) (fun _ ⟨hV, B4, O45, B57, B68, B87, _⟩ => x_move rfl (fr.ev rfl)) ⟨hV, B4, O45, B57, B68, B87, trivial⟩ ?_
            clear fr a; intro a fr
            refine fx_take (i := 1) (v := .int .i64 ((j : Nat) : Int)) fr rfl (by kernel_rfl) rfl rfl (by first | decide | simp) (fun _ _ _ h => h) (fun _ ⟨hV, B4, O45, B57, B68, B87, _⟩ => x_move rfl (fr.ev rfl)) ⟨hV, B4, O45, B57, B68, B87, trivial⟩ ?_
            clear fr a; intro a fr
            refine fx_take (i := 2) (v := .pointer (some ⟨g79, o80 + j * 18, none⟩)) fr rfl (by kernel_rfl) rfl rfl (by first | decide | simp) (fun _ _ _ h => h) (fun _ ⟨hV, B4, O45, B57, B68, B87, _⟩ => x_indexV Try.underlying26 sz39 rfl (fr.ev rfl) hA81 (fr.ev rfl) (by omega) rfl) ⟨hV, B4, O45, B57, B68, B87, trivial⟩ ?_
            clear fr a; intro a fr
            refine fx_take (i := 3) (v := .pointer (some ⟨g79, o80 + j * 18, none⟩)) fr rfl (by kernel_rfl) rfl rfl (by first | decide | simp) (fun _ _ _ h => h) (fun _ ⟨hV, B4, O45, B57, B68, B87, _⟩ => x_fieldAddr fo39_0 rfl (fr.ev rfl) rfl) ⟨hV, B4, O45, B57, B68, B87, trivial⟩ ?_
            clear fr a; intro a fr
            refine fx_take (i := 4) (v := .int .u32 (((allL n L).getD j ln0).num)) fr rfl (by kernel_rfl) rfl rfl (by first | decide | simp) (fun _ _ _ h => h) (fun _ ⟨hV, B4, O45, B57, B68, B87, _⟩ => x_load1 pl33 rfl (fr.ev rfl) (range_cell ((O45.view).elem hA81 j ln0 (by omega)) 0 rfl rfl)) ⟨hV, B4, O45, B57, B68, B87, trivial⟩ ?_
            clear fr a; intro a fr
            refine fx_take (i := 5) (v := .pointer (some ⟨b1, 1, none⟩)) fr rfl (by kernel_rfl) rfl rfl (by first | decide | simp) (fun _ _ _ h => h) (fun _ ⟨hV, B4, O45, B57, B68, B87, _⟩ => x_fieldAddr fo57_1 rfl (fr.ev rfl) rfl) ⟨hV, B4, O45, B57, B68, B87, trivial⟩ ?_
            clear fr a; intro a fr
            refine fx_take (i := 6) (v := .pointer (some ⟨b1, 1, none⟩)) fr rfl (by kernel_rfl) rfl rfl (by first | decide | simp) (fun _ _ _ h => h) (fun _ ⟨hV, B4, O45, B57, B68, B87, _⟩ => x_fieldAddr fo39_0 rfl (fr.ev rfl) rfl) ⟨hV, B4, O45, B57, B68, B87, trivial⟩ ?_
            clear fr a; intro a fr
            refine fx_take (i := 7) (v := .int .u32 q.ln.num) fr rfl (by kernel_rfl) rfl rfl (by first | decide | simp) (fun _ _ _ h => h) (fun _ ⟨hV, B4, O45, B57, B68, B87, _⟩ => x_load1 pl33 rfl (fr.ev rfl) (B4.cell 1 rfl)) ⟨hV, B4, O45, B57, B68, B87, trivial⟩ ?_
            clear fr a; intro a fr
            refine fx_take (i := 8) (v := .bool false) fr rfl (by kernel_rfl) rfl rfl (by first | decide | simp) (fun _ _ _ h => h) (fun _ ⟨hV, B4, O45, B57, B68, B87, _⟩ => x_neq rfl (fr.ev rfl) (fr.ev rfl) (by first | (exact decide_eq_false (fun hn => hn h1)) | simp [h1])) ⟨hV, B4, O45, B57, B68, B87, trivial⟩ ?_
            clear fr a; intro a fr
            refine fx_take (i := 9) (v := .bool false) fr rfl (by kernel_rfl) rfl rfl (by first | decide | simp) (fun _ _ _ h => h) (fun _ ⟨hV, B4, O45, B57, B68, B87, _⟩ => x_move rfl (fr.ev rfl)) ⟨hV, B4, O45, B57, B68, B87, trivial⟩ ?_
            clear fr a; intro a fr
            refine fx_takeskip (i := 10) fr rfl (by kernel_rfl) (fr.unwant rfl rfl rfl (by decide)) rfl (by first | decide | simp) (fun _ _ _ h => h) ⟨hV, B4, O45, B57, B68, B87, trivial⟩ ?_
            clear fr a; intro a fr
            refine fx_takeskip (i := 11) fr rfl (by kernel_rfl) (fr.unwant rfl rfl rfl (by decide)) rfl (by first | decide | simp) (fun _ _ _ h => h) ⟨hV, B4, O45, B57, B68, B87, trivial⟩ ?_
            clear fr a; intro a fr
            refine fx_takeskip (i := 12) fr rfl (by kernel_rfl) (fr.unwant rfl rfl rfl (by decide)) rfl (by first | decide | simp) (fun _ _ _ h => h) ⟨hV, B4, O45, B57, B68, B87, trivial⟩ ?_
            clear fr a; intro a fr
            refine fx_takeskip (i := 13) fr rfl (by kernel_rfl) (fr.unwant rfl rfl rfl (by decide)) rfl (by first | decide | simp) (fun _ _ _ h => h) ⟨hV, B4, O45, B57, B68, B87, trivial⟩ ?_
            clear fr a; intro a fr
            refine fx_takeskip (i := 14) fr rfl (by kernel_rfl) (fr.unwant rfl rfl rfl (by decide)) rfl (by first | decide | simp) (fun _ _ _ h => h) ⟨hV, B4, O45, B57, B68, B87, trivial⟩ ?_
            clear fr a; intro a fr
            refine fx_takeskip (i := 15) fr rfl (by kernel_rfl) (fr.unwant rfl rfl rfl (by decide)) rfl (by first | decide | simp) (fun _ _ _ h => h) ⟨hV, B4, O45, B57, B68, B87, trivial⟩ ?_
            clear fr a; intro a fr
            refine fx_take (i := 16) (v := .bool false) fr rfl (by kernel_rfl) rfl rfl (by first | decide | simp) (fun _ _ _ h => h) (fun _ ⟨hV, B4, O45, B57, B68, B87, _⟩ => x_pick_f rfl (fr.ev rfl) rfl) ⟨hV, B4, O45, B57, B68, B87, trivial⟩ ?_
            clear fr a; intro a fr
            refine fx_take (i := 17) (v := .bool false) fr rfl (by kernel_rfl) rfl rfl (by first | decide | simp) (fun _ _ _ h => h) (fun _ ⟨hV, B4, O45, B57, B68, B87, _⟩ => x_move rfl (fr.ev rfl)) ⟨hV, B4, O45, B57, B68, B87, trivial⟩ ?_
            clear fr a; intro a fr
            refine fx_takeskip (i := 18) fr rfl (by kernel_rfl) (fr.unwant rfl rfl rfl (by decide)) rfl (by first | decide | simp) (fun _ _ _ h => h) ⟨hV, B4, O45, B57, B68, B87, trivial⟩ ?_
            clear fr a; intro a fr
            refine fx_takeskip (i := 19) fr rfl (by kernel_rfl) (fr.unwant rfl rfl rfl (by decide)) rfl (by first | decide | simp) (fun _ _ _ h => h) ⟨hV, B4, O45, B57, B68, B87, trivial⟩ ?_
            clear fr a; intro a fr
            refine fx_takeskip (i := 20) fr rfl (by kernel_rfl) (fr.unwant rfl rfl rfl (by decide)) rfl (by first | decide | simp) (fun _ _ _ h => h) ⟨hV, B4, O45, B57, B68, B87, trivial⟩ ?_
            clear fr a; intro a fr
            refine fx_takeskip (i := 21) fr rfl (by kernel_rfl) (fr.unwant rfl rfl rfl (by decide)) rfl (by first | decide | simp) (fun _ _ _ h => h) ⟨hV, B4, O45, B57, B68, B87, trivial⟩ ?_
            clear fr a; intro a fr
            refine fx_takeskip (i := 22) fr rfl (by kernel_rfl) (fr.unwant rfl rfl rfl (by decide)) rfl (by first | decide | simp) (fun _ _ _ h => h) ⟨hV, B4, O45, B57, B68, B87, trivial⟩ ?_
            clear fr a; intro a fr
            refine fx_takeskip (i := 23) fr rfl (by kernel_rfl) (fr.unwant rfl rfl rfl (by decide)) rfl (by first | decide | simp) (fun _ _ _ h => h) ⟨hV, B4, O45, B57, B68, B87, trivial⟩ ?_
            clear fr a; intro a fr
            refine fx_takeskip (i := 24) fr rfl (by kernel_rfl) (fr.unwant rfl rfl rfl (by decide)) rfl (by first | decide | simp) (fun _ _ _ h => h) ⟨hV, B4, O45, B57, B68, B87, trivial⟩ ?_
            clear fr a; intro a fr
            refine fx_takeskip (i := 25) fr rfl (by kernel_rfl) (fr.unwant_u rfl rfl rfl) rfl (by first | decide | simp) (fun _ _ _ h => h) ⟨hV, B4, O45, B57, B68, B87, trivial⟩ ?_
            clear fr a; intro a fr
            refine fx_takeskip (i := 26) fr rfl (by kernel_rfl) (fr.unwant_u rfl rfl rfl) rfl (by first | decide | simp) (fun _ _ _ h => h) ⟨hV, B4, O45, B57, B68, B87, trivial⟩ ?_
            clear fr a; intro a fr
            refine fx_takeskip (i := 27) fr rfl (by kernel_rfl) (fr.unwant rfl rfl rfl (by decide)) rfl (by first | decide | simp) (fun _ _ _ h => h) ⟨hV, B4, O45, B57, B68, B87, trivial⟩ ?_
            clear fr a; intro a fr
            refine fx_take (i := 28) (v := .bool false) fr rfl (by kernel_rfl) rfl rfl (by first | decide | simp) (fun _ _ _ h => h) (fun _ ⟨hV, B4, O45, B57, B68, B87, _⟩ => x_pick_f rfl (fr.ev rfl) rfl) ⟨hV, B4, O45, B57, B68, B87, trivial⟩ ?_
            clear fr a; intro a fr
            refine fx_hdone (by kernel_rfl) ?_
            refine fx_next ?_
            refine fx_cond_f fr rfl ?_
            refine wp_skip ?_
            refine fx_blk ?_
            refine fx_next ?_
            refine wp_region_lit ?_  -- region 24
            refine fx_val (v := .int .i64 ((j : Nat) : Int)) fr rfl rfl (by first | decide | simp) (x_move rfl (fr.ev rfl)) ?_
            clear fr a; intro a fr
            refine fx_val (v := .int .i64 ((j + 1 : Nat) : Int)) fr rfl rfl (by first | decide | simp) (x_add rfl (fr.ev rfl) rfl (i64w (r := ((j + 1 : Nat) : Int)) (by omega) (by omega))) ?_
            clear fr a; intro a fr
            refine fx_val (v := .int .i64 ((j + 1 : Nat) : Int)) fr rfl rfl (by first | decide | simp) (x_assign rfl (fr.ev rfl)) ?_
            clear fr a; intro a fr
            refine wpList_nil ?_
            refine fx_next ?_
            exact ⟨_, by omega, (j + 1), rfl, fr.sub ⟨rfl, rfl, rfl, rfl, rfl, rfl, trivial⟩, hF, hV, B4, O45, H50, B57, B68, by omega⟩
          · skip
            rcases Decidable.em (((allL n L).getD j ln0) = ln0) with h2 | h2
            · skip
              refine wp_region_lit ?_  -- region 25
              refine fx_val (v := .pointer (some ⟨b20, 0, none⟩)) fr rfl rfl (by first | decide | simp) (x_move rfl (fr.ev rfl)) ?_
              clear fr a; intro a fr
              refine fx_val (v := .slice A43 ((allL n L).length) cap44) fr rfl rfl (by first | decide | simp) (x_move rfl (fr.ev rfl)) ?_
              clear fr a; intro a fr
              refine fx_val (v := .int .i64 ((j : Nat) : Int)) fr rfl rfl (by first | decide | simp) (x_move rfl (fr.ev rfl)) ?_
              clear fr a; intro a fr
              obtain ⟨g93, o94, hA95⟩ := (O45.view).some_ (by omega)
              refine fx_val (v := .pointer (some ⟨g93, o94 + j * 18, none⟩)) fr rfl rfl (by first | decide | simp) (x_indexV Try.underlying26 sz39 rfl (fr.ev rfl) hA95 (fr.ev rfl) (by omega) rfl) ?_
              clear fr a; intro a fr
              refine fx_val (v := .pointer (some ⟨g93, o94 + j * 18, none⟩)) fr rfl rfl (by first | decide | simp) (x_fieldAddr fo39_0 rfl (fr.ev rfl) rfl) ?_
              clear fr a; intro a fr
              refine fx_val (v := .int .u32 (((allL n L).getD j ln0).num)) fr rfl rfl (by first | decide | simp) (x_load1 pl33 rfl (fr.ev rfl) (range_cell ((O45.view).elem hA95 j ln0 (by omega)) 0 rfl rfl)) ?_
              clear fr a; intro a fr
              refine fx_call fr rfl rfl (by first | decide | simp) (x_call (vs := [.pointer (some ⟨b20, 0, none⟩), .int .u32 (((allL n L).getD j ln0).num)]) rfl rfl ⟨(fr.ev rfl), (fr.ev rfl), trivial⟩ Try.func14 nm14 rfl) (find_c (((allL n L).getD j ln0).num) (by omega) H50) ?_
              clear fr a
              rintro v w96 ⟨rfl, hN97⟩ a fr
              replace hV := hV.new hN97
              replace B4 := B4.new hN97
              replace O45 := O45.new hN97
              replace H50 := H50.new hN97
              replace B57 := B57.new hN97
              replace B68 := B68.new hN97
              replace hF := hF.trNew hN97
              refine fx_val (v := .tuple #[.agg (lnE.arr ((getN (putL n ways L q.ln) (((allL n L).getD j ln0).num)).getD ln0)), .bool ((getN (putL n ways L q.ln) (((allL n L).getD j ln0).num)).isSome)]) fr rfl rfl (by first | decide | simp) (x_move rfl (fr.ev rfl)) ?_
              clear fr a; intro a fr
              refine fx_val (v := .agg (lnE.arr ((getN (putL n ways L q.ln) (((allL n L).getD j ln0).num)).getD ln0))) fr rfl rfl (by first | decide | simp) (x_extract rfl (fr.ev rfl) rfl) ?_
              clear fr a; intro a fr
              refine fx_val (v := .bool ((getN (putL n ways L q.ln) (((allL n L).getD j ln0).num)).isSome)) fr rfl rfl (by first | decide | simp) (x_extract rfl (fr.ev rfl) rfl) ?_
              clear fr a; intro a fr
              refine fx_new fr rfl rfl (by first | decide | simp) (x_alloc (z := .agg (#[.int .u32 0, .int .i64 0, .int .u8 0, .int .u8 0, .int .u8 0, .int .u8 0, .int .u8 0, .int .u8 0, .int .u8 0, .int .u8 0, .int .u8 0, .int .u8 0, .int .u8 0, .int .u8 0, .int .u8 0, .int .u8 0, .int .u8 0, .int .u8 0])) (cs := lnE.arr ln0) rfl (by kernel_rfl) rfl) ?_
              clear fr a
              intro b98 w99 hN100 B101 hb102 a fr
              have ap_P_b98 : Apart P b98 := hV.apart hb102
              have ne_b1_b98 : NE b1 b98 := NE.mk (Nat.lt_of_lt_of_le B4.lt hb102)
              have ap_A43_b98 : Apart A43 b98 := O45.apart hb102
              have ap_Fp49_b98 : ¬ Fp49 b98 := H50.apart hb102
              have ne_b54_b98 : NE b54 b98 := NE.mk (Nat.lt_of_lt_of_le B57.lt hb102)
              have ne_b65_b98 : NE b65 b98 := NE.mk (Nat.lt_of_lt_of_le B68.lt hb102)
              have g_b98 := Nat.le_trans hF.size hb102
              replace hV := hV.new hN100
              replace B4 := B4.new hN100
              replace O45 := O45.new hN100
              replace H50 := H50.new hN100
              replace B57 := B57.new hN100
              replace B68 := B68.new hN100
              replace hF := hF.trNew hN100
              refine fx_storeS sz39 rfl rfl rfl (fr.ev rfl) (fr.ev rfl) (lnE.all _) B101 (lnE.size _) (lnE.size _) fun w103 hO104 hBq => ?_
              replace hV := hV.only hO104 (Apart.ne1 ap_P_b98)
              replace B4 := B4.only hO104 (by first | exact ne_b1_b98 | exact ne_b98_b1.symm | (show ¬ b1 = b98; omega))
              replace O45 := O45.only hO104 (Apart.ne1 ap_A43_b98)
              replace H50 := H50.only hO104 (ne1P ap_Fp49_b98)
              replace B57 := B57.only hO104 (by first | exact ne_b54_b98 | exact ne_b98_b54.symm | (show ¬ b54 = b98; omega))
              replace B68 := B68.only hO104 (by first | exact ne_b65_b98 | exact ne_b98_b65.symm | (show ¬ b65 = b98; omega))
              replace hF := hF.loc hO104 (.inr g_b98)
              replace B101 := hBq
              clear hBq
              refine fx_val (v := .bool ((getN (putL n ways L q.ln) (((allL n L).getD j ln0).num)).isSome)) fr rfl rfl (by first | decide | simp) (x_assign rfl (fr.ev rfl)) ?_
              clear fr a; intro a fr
              refine wpList_nil ?_
              refine fx_next ?_
              refine wp_seq ?_
              refine fx_held (n := 29) (fun w => View actE w P cp la ∧ Blk w b1 57 (actE.arr q) ∧ Own lnE w A43 cap44 (allL n L) ∧ Blk w b54 39 (lnE.arr ln0) ∧ Blk w b65 39 (lnE.arr q.ln) ∧ Blk w b98 39 (lnE.arr ((getN (putL n ways L q.ln) (((allL n L).getD j ln0).num)).getD ln0)) ∧ True) (by kernel_rfl) rfl ?_  -- region 26
              intro w105 hN106
              replace hV := hV.new hN106
              replace B4 := B4.new hN106
              replace O45 := O45.new hN106
              replace H50 := H50.new hN106
              replace B57 := B57.new hN106
              replace B68 := B68.new hN106
              replace B101 := B101.new hN106
              replace hF := hF.trNew hN106
              refine fx_take (i := 0) (v := .slice A43 ((allL n L).length) cap44) fr rfl (by kernel_rfl) rfl rfl (by first | decide | simp) (fun _ _ _ h => h) (fun _ ⟨hV, B4, O45, B57, B68, B101, _⟩ => x_move rfl (fr.ev rfl)) ⟨hV, B4, O45, B57, B68, B101, trivial⟩ ?_
              clear fr a; intro a fr
              refine fx_take (i := 1) (v := .int .i64 ((j : Nat) : Int)) fr rfl (by kernel_rfl) rfl rfl (by first | decide | simp) (fun _ _ _ h => h) (fun _ ⟨hV, B4, O45, B57, B68, B101, _⟩ => x_move rfl (fr.ev rfl)) ⟨hV, B4, O45, B57, B68, B101, trivial⟩ ?_
              clear fr a; intro a fr
              refine fx_take (i := 2) (v := .pointer (some ⟨g93, o94 + j * 18, none⟩)) fr rfl (by kernel_rfl) rfl rfl (by first | decide | simp) (fun _ _ _ h => h) (fun _ ⟨hV, B4, O45, B57, B68, B101, _⟩ => x_indexV Try.underlying26 sz39 rfl (fr.ev rfl) hA95 (fr.ev rfl) (by omega) rfl) ⟨hV, B4, O45, B57, B68, B101, trivial⟩ ?_
              clear fr a; intro a fr
              refine fx_take (i := 3) (v := .pointer (some ⟨g93, o94 + j * 18, none⟩)) fr rfl (by kernel_rfl) rfl rfl (by first | decide | simp) (fun _ _ _ h => h) (fun _ ⟨hV, B4, O45, B57, B68, B101, _⟩ => x_fieldAddr fo39_0 rfl (fr.ev rfl) rfl) ⟨hV, B4, O45, B57, B68, B101, trivial⟩ ?_
              clear fr a; intro a fr
              refine fx_take (i := 4) (v := .int .u32 (((allL n L).getD j ln0).num)) fr rfl (by kernel_rfl) rfl rfl (by first | decide | simp) (fun _ _ _ h => h) (fun _ ⟨hV, B4, O45, B57, B68, B101, _⟩ => x_load1 pl33 rfl (fr.ev rfl) (range_cell ((O45.view).elem hA95 j ln0 (by omega)) 0 rfl rfl)) ⟨hV, B4, O45, B57, B68, B101, trivial⟩ ?_
              clear fr a; intro a fr
              refine fx_take (i := 5) (v := .pointer (some ⟨b1, 1, none⟩)) fr rfl (by kernel_rfl) rfl rfl (by first | decide | simp) (fun _ _ _ h => h) (fun _ ⟨hV, B4, O45, B57, B68, B101, _⟩ => x_fieldAddr fo57_1 rfl (fr.ev rfl) rfl) ⟨hV, B4, O45, B57, B68, B101, trivial⟩ ?_
              clear fr a; intro a fr
              refine fx_take (i := 6) (v := .pointer (some ⟨b1, 1, none⟩)) fr rfl (by kernel_rfl) rfl rfl (by first | decide | simp) (fun _ _ _ h => h) (fun _ ⟨hV, B4, O45, B57, B68, B101, _⟩ => x_fieldAddr fo39_0 rfl (fr.ev rfl) rfl) ⟨hV, B4, O45, B57, B68, B101, trivial⟩ ?_
              clear fr a; intro a fr
              refine fx_take (i := 7) (v := .int .u32 q.ln.num) fr rfl (by kernel_rfl) rfl rfl (by first | decide | simp) (fun _ _ _ h => h) (fun _ ⟨hV, B4, O45, B57, B68, B101, _⟩ => x_load1 pl33 rfl (fr.ev rfl) (B4.cell 1 rfl)) ⟨hV, B4, O45, B57, B68, B101, trivial⟩ ?_
              clear fr a; intro a fr
              refine fx_take (i := 8) (v := .bool true) fr rfl (by kernel_rfl) rfl rfl (by first | decide | simp) (fun _ _ _ h => h) (fun _ ⟨hV, B4, O45, B57, B68, B101, _⟩ => x_neq rfl (fr.ev rfl) (fr.ev rfl) (by first | (exact decide_eq_true h1) | simp [h1])) ⟨hV, B4, O45, B57, B68, B101, trivial⟩ ?_
              clear fr a; intro a fr
              refine fx_take (i := 9) (v := .bool true) fr rfl (by kernel_rfl) rfl rfl (by first | decide | simp) (fun _ _ _ h => h) (fun _ ⟨hV, B4, O45, B57, B68, B101, _⟩ => x_move rfl (fr.ev rfl)) ⟨hV, B4, O45, B57, B68, B101, trivial⟩ ?_
              clear fr a; intro a fr
              refine fx_take (i := 10) (v := .slice A43 ((allL n L).length) cap44) fr rfl (by kernel_rfl) (fr.want rfl rfl rfl) rfl (by first | decide | simp) (fun _ _ _ h => h) (fun _ ⟨hV, B4, O45, B57, B68, B101, _⟩ => x_move rfl (fr.ev rfl)) ⟨hV, B4, O45, B57, B68, B101, trivial⟩ ?_
              clear fr a; intro a fr
              refine fx_take (i := 11) (v := .int .i64 ((j : Nat) : Int)) fr rfl (by kernel_rfl) (fr.want rfl rfl rfl) rfl (by first | decide | simp) (fun _ _ _ h => h) (fun _ ⟨hV, B4, O45, B57, B68, B101, _⟩ => x_move rfl (fr.ev rfl)) ⟨hV, B4, O45, B57, B68, B101, trivial⟩ ?_
              clear fr a; intro a fr
              refine fx_take (i := 12) (v := .pointer (some ⟨g93, o94 + j * 18, none⟩)) fr rfl (by kernel_rfl) (fr.want rfl rfl rfl) rfl (by first | decide | simp) (fun _ _ _ h => h) (fun _ ⟨hV, B4, O45, B57, B68, B101, _⟩ => x_indexV Try.underlying26 sz39 rfl (fr.ev rfl) hA95 (fr.ev rfl) (by omega) rfl) ⟨hV, B4, O45, B57, B68, B101, trivial⟩ ?_
              clear fr a; intro a fr
              refine fx_take (i := 13) (v := .agg (lnE.arr ((allL n L).getD j ln0))) fr rfl (by kernel_rfl) (fr.want rfl rfl rfl) rfl (by first | decide | simp) (fun _ _ _ h => h) (fun _ ⟨hV, B4, O45, B57, B68, B101, _⟩ => x_loadE (E := lnE) ag39 rfl rfl (fr.ev rfl) ((O45.view).elem hA95 j ln0 (by omega))) ⟨hV, B4, O45, B57, B68, B101, trivial⟩ ?_
              clear fr a; intro a fr
              refine fx_take (i := 14) (v := .agg (lnE.arr ln0)) fr rfl (by kernel_rfl) (fr.want rfl rfl rfl) rfl (by first | decide | simp) (fun _ _ _ h => h) (fun _ ⟨hV, B4, O45, B57, B68, B101, _⟩ => x_loadE (E := lnE) ag39 rfl rfl (fr.ev rfl) (B57.rangeE lnE)) ⟨hV, B4, O45, B57, B68, B101, trivial⟩ ?_
              clear fr a; intro a fr
              refine fx_take (i := 15) (v := .bool false) fr rfl (by kernel_rfl) (fr.want rfl rfl rfl) rfl (by first | decide | simp) (fun _ _ _ h => h) (fun _ ⟨hV, B4, O45, B57, B68, B101, _⟩ => x_neE lnER rfl rfl (fr.ev rfl) (fr.ev rfl) (by rw [decide_eq_true h2]; try rfl)) ⟨hV, B4, O45, B57, B68, B101, trivial⟩ ?_
              clear fr a; intro a fr
              refine fx_take (i := 16) (v := .bool false) fr rfl (by kernel_rfl) rfl rfl (by first | decide | simp) (fun _ _ _ h => h) (fun _ ⟨hV, B4, O45, B57, B68, B101, _⟩ => x_pick_t rfl (fr.ev rfl) (fr.ev rfl)) ⟨hV, B4, O45, B57, B68, B101, trivial⟩ ?_
              clear fr a; intro a fr
              refine fx_take (i := 17) (v := .bool false) fr rfl (by kernel_rfl) rfl rfl (by first | decide | simp) (fun _ _ _ h => h) (fun _ ⟨hV, B4, O45, B57, B68, B101, _⟩ => x_move rfl (fr.ev rfl)) ⟨hV, B4, O45, B57, B68, B101, trivial⟩ ?_
              clear fr a; intro a fr
              refine fx_takeskip (i := 18) fr rfl (by kernel_rfl) (fr.unwant rfl rfl rfl (by decide)) rfl (by first | decide | simp) (fun _ _ _ h => h) ⟨hV, B4, O45, B57, B68, B101, trivial⟩ ?_
              clear fr a; intro a fr
              refine fx_takeskip (i := 19) fr rfl (by kernel_rfl) (fr.unwant rfl rfl rfl (by decide)) rfl (by first | decide | simp) (fun _ _ _ h => h) ⟨hV, B4, O45, B57, B68, B101, trivial⟩ ?_
              clear fr a; intro a fr
              refine fx_takeskip (i := 20) fr rfl (by kernel_rfl) (fr.unwant rfl rfl rfl (by decide)) rfl (by first | decide | simp) (fun _ _ _ h => h) ⟨hV, B4, O45, B57, B68, B101, trivial⟩ ?_
              clear fr a; intro a fr
              refine fx_takeskip (i := 21) fr rfl (by kernel_rfl) (fr.unwant rfl rfl rfl (by decide)) rfl (by first | decide | simp) (fun _ _ _ h => h) ⟨hV, B4, O45, B57, B68, B101, trivial⟩ ?_
              clear fr a; intro a fr
              refine fx_takeskip (i := 22) fr rfl (by kernel_rfl) (fr.unwant rfl rfl rfl (by decide)) rfl (by first | decide | simp) (fun _ _ _ h => h) ⟨hV, B4, O45, B57, B68, B101, trivial⟩ ?_
              clear fr a; intro a fr
              refine fx_takeskip (i := 23) fr rfl (by kernel_rfl) (fr.unwant rfl rfl rfl (by decide)) rfl (by first | decide | simp) (fun _ _ _ h => h) ⟨hV, B4, O45, B57, B68, B101, trivial⟩ ?_
              clear fr a; intro a fr
              refine fx_takeskip (i := 24) fr rfl (by kernel_rfl) (fr.unwant rfl rfl rfl (by decide)) rfl (by first | decide | simp) (fun _ _ _ h => h) ⟨hV, B4, O45, B57, B68, B101, trivial⟩ ?_
              clear fr a; intro a fr
              refine fx_takeskip (i := 25) fr rfl (by kernel_rfl) (fr.unwant_u rfl rfl rfl) rfl (by first | decide | simp) (fun _ _ _ h => h) ⟨hV, B4, O45, B57, B68, B101, trivial⟩ ?_
              clear fr a; intro a fr
              refine fx_takeskip (i := 26) fr rfl (by kernel_rfl) (fr.unwant_u rfl rfl rfl) rfl (by first | decide | simp) (fun _ _ _ h => h) ⟨hV, B4, O45, B57, B68, B101, trivial⟩ ?_
              clear fr a; intro a fr
              refine fx_takeskip (i := 27) fr rfl (by kernel_rfl) (fr.unwant rfl rfl rfl (by decide)) rfl (by first | decide | simp) (fun _ _ _ h => h) ⟨hV, B4, O45, B57, B68, B101, trivial⟩ ?_
              clear fr a; intro a fr
              refine fx_take (i := 28) (v := .bool false) fr rfl (by kernel_rfl) rfl rfl (by first | decide | simp) (fun _ _ _ h => h) (fun _ ⟨hV, B4, O45, B57, B68, B101, _⟩ => x_pick_f rfl (fr.ev rfl) rfl) ⟨hV, B4, O45, B57, B68, B101, trivial⟩ ?_
              clear fr a; intro a fr
              refine fx_hdone (by kernel_rfl) ?_
              refine fx_next ?_
              refine fx_cond_f fr rfl ?_
              refine wp_skip ?_
              refine fx_blk ?_
              refine fx_next ?_
              refine wp_region_lit ?_  -- region 24
              refine fx_val (v := .int .i64 ((j : Nat) : Int)) fr rfl rfl (by first | decide | simp) (x_move rfl (fr.ev rfl)) ?_
              clear fr a; intro a fr
              refine fx_val (v := .int .i64 ((j + 1 : Nat) : Int)) fr rfl rfl (by first | decide | simp) (x_add rfl (fr.ev rfl) rfl (i64w (r := ((j + 1 : Nat) : Int)) (by omega) (by omega))) ?_
              clear fr a; intro a fr
              refine fx_val (v := .int .i64 ((j + 1 : Nat) : Int)) fr rfl rfl (by first | decide | simp) (x_assign rfl (fr.ev rfl)) ?_
              clear fr a; intro a fr
              refine wpList_nil ?_
              refine fx_next ?_
              exact ⟨_, by omega, (j + 1), rfl, fr.sub ⟨rfl, rfl, rfl, rfl, rfl, rfl, trivial⟩, hF, hV, B4, O45, H50, B57, B68, by omega⟩
            · skip
              refine wp_region_lit ?_  -- region 25
              refine fx_val (v := .pointer (some ⟨b20, 0, none⟩)) fr rfl rfl (by first | decide | simp) (x_move rfl (fr.ev rfl)) ?_
              clear fr a; intro a fr
              refine fx_val (v := .slice A43 ((allL n L).length) cap44) fr rfl rfl (by first | decide | simp) (x_move rfl (fr.ev rfl)) ?_
              clear fr a; intro a fr
              refine fx_val (v := .int .i64 ((j : Nat) : Int)) fr rfl rfl (by first | decide | simp) (x_move rfl (fr.ev rfl)) ?_
              clear fr a; intro a fr
              obtain ⟨g107, o108, hA109⟩ := (O45.view).some_ (by omega)
              refine fx_val (v := .pointer (some ⟨g107, o108 + j * 18, none⟩)) fr rfl rfl (by first | decide | simp) (x_indexV Try.underlying26 sz39 rfl (fr.ev rfl) hA109 (fr.ev rfl) (by omega) rfl) ?_
              clear fr a; intro a fr
              refine fx_val (v := .pointer (some ⟨g107, o108 + j * 18, none⟩)) fr rfl rfl (by first | decide | simp) (x_fieldAddr fo39_0 rfl (fr.ev rfl) rfl) ?_
              clear fr a; intro a fr
              refine fx_val (v := .int .u32 (((allL n L).getD j ln0).num)) fr rfl rfl (by first | decide | simp) (x_load1 pl33 rfl (fr.ev rfl) (range_cell ((O45.view).elem hA109 j ln0 (by omega)) 0 rfl rfl)) ?_
              clear fr a; intro a fr
              refine fx_call fr rfl rfl (by first | decide | simp) (x_call (vs := [.pointer (some ⟨b20, 0, none⟩), .int .u32 (((allL n L).getD j ln0).num)]) rfl rfl ⟨(fr.ev rfl), (fr.ev rfl), trivial⟩ Try.func14 nm14 rfl) (find_c (((allL n L).getD j ln0).num) (by omega) H50) ?_
              clear fr a
              rintro v w110 ⟨rfl, hN111⟩ a fr
              replace hV := hV.new hN111
              replace B4 := B4.new hN111
              replace O45 := O45.new hN111
              replace H50 := H50.new hN111
              replace B57 := B57.new hN111
              replace B68 := B68.new hN111
              replace hF := hF.trNew hN111
              rw [show getN (putL n ways L q.ln) (((allL n L).getD j ln0).num) = some ((allL n L).getD j ln0) from (hkeep _ hwm h1 h2)] at fr
              simp only [Option.getD_some, Option.isSome_some] at fr
              refine fx_val (v := .tuple #[.agg (lnE.arr ((allL n L).getD j ln0)), .bool true]) fr rfl rfl (by first | decide | simp) (x_move rfl (fr.ev rfl)) ?_
              clear fr a; intro a fr
              refine fx_val (v := .agg (lnE.arr ((allL n L).getD j ln0))) fr rfl rfl (by first | decide | simp) (x_extract rfl (fr.ev rfl) rfl) ?_
              clear fr a; intro a fr
              refine fx_val (v := .bool true) fr rfl rfl (by first | decide | simp) (x_extract rfl (fr.ev rfl) rfl) ?_
              clear fr a; intro a fr
              refine fx_new fr rfl rfl (by first | decide | simp) (x_alloc (z := .agg (#[.int .u32 0, .int .i64 0, .int .u8 0, .int .u8 0, .int .u8 0, .int .u8 0, .int .u8 0, .int .u8 0, .int .u8 0, .int .u8 0, .int .u8 0, .int .u8 0, .int .u8 0, .int .u8 0, .int .u8 0, .int .u8 0, .int .u8 0, .int .u8 0])) (cs := lnE.arr ln0) rfl (by kernel_rfl) rfl) ?_
              clear fr a
              intro b112 w113 hN114 B115 hb116 a fr
              have ap_P_b112 : Apart P b112 := hV.apart hb116
              have ne_b1_b112 : NE b1 b112 := NE.mk (Nat.lt_of_lt_of_le B4.lt hb116)
              have ap_A43_b112 : Apart A43 b112 := O45.apart hb116
              have ap_Fp49_b112 : ¬ Fp49 b112 := H50.apart hb116
              have ne_b54_b112 : NE b54 b112 := NE.mk (Nat.lt_of_lt_of_le B57.lt hb116)
              have ne_b65_b112 : NE b65 b112 := NE.mk (Nat.lt_of_lt_of_le B68.lt hb116)
              have g_b112 := Nat.le_trans hF.size hb116
              replace hV := hV.new hN114
              replace B4 := B4.new hN114
              replace O45 := O45.new hN114
              replace H50 := H50.new hN114
              replace B57 := B57.new hN114
              replace B68 := B68.new hN114
              replace hF := hF.trNew hN114
              refine fx_storeS sz39 rfl rfl rfl (fr.ev rfl) (fr.ev rfl) (lnE.all _) B115 (lnE.size _) (lnE.size _) fun w117 hO118 hBq => ?_
              replace hV := hV.only hO118 (Apart.ne1 ap_P_b112)
              replace B4 := B4.only hO118 (by first | exact ne_b1_b112 | exact ne_b112_b1.symm | (show ¬ b1 = b112; omega))
              replace O45 := O45.only hO118 (Apart.ne1 ap_A43_b112)
              replace H50 := H50.only hO118 (ne1P ap_Fp49_b112)
              replace B57 := B57.only hO118 (by first | exact ne_b54_b112 | exact ne_b112_b54.symm | (show ¬ b54 = b112; omega))
              replace B68 := B68.only hO118 (by first | exact ne_b65_b112 | exact ne_b112_b65.symm | (show ¬ b65 = b112; omega))
              replace hF := hF.loc hO118 (.inr g_b112)
              replace B115 := hBq
              clear hBq
              refine fx_val (v := .bool true) fr rfl rfl (by first | decide | simp) (x_assign rfl (fr.ev rfl)) ?_
              clear fr a; intro a fr
              refine wpList_nil ?_
              refine fx_next ?_
              refine wp_seq ?_
              refine fx_held (n := 29) (fun w => View actE w P cp la ∧ Blk w b1 57 (actE.arr q) ∧ Own lnE w A43 cap44 (allL n L) ∧ Blk w b54 39 (lnE.arr ln0) ∧ Blk w b65 39 (lnE.arr q.ln) ∧ Blk w b112 39 (lnE.arr ((allL n L).getD j ln0)) ∧ True) (by kernel_rfl) rfl ?_  -- region 26
              intro w119 hN120
              replace hV := hV.new hN120
              replace B4 := B4.new hN120
              replace O45 := O45.new hN120
              replace H50 := H50.new hN120
              replace B57 := B57.new hN120
              replace B68 := B68.new hN120
              replace B115 := B115.new hN120
              replace hF := hF.trNew hN120
              refine fx_take (i := 0) (v := .slice A43 ((allL n L).length) cap44) fr rfl (by kernel_rfl) rfl rfl (by first | decide | simp) (fun _ _ _ h => h) (fun _ ⟨hV, B4, O45, B57, B68, B115, _⟩ => x_move rfl (fr.ev rfl)) ⟨hV, B4, O45, B57, B68, B115, trivial⟩ ?_
              clear fr a; intro a fr
              refine fx_take (i := 1) (v := .int .i64 ((j : Nat) : Int)) fr rfl (by kernel_rfl) rfl rfl (by first | decide | simp) (fun _ _ _ h => h) (fun _ ⟨hV, B4, O45, B57, B68, B115, _⟩ => x_move rfl (fr.ev rfl)) ⟨hV, B4, O45, B57, B68, B115, trivial⟩ ?_
              clear fr a; intro a fr
              refine fx_take (i := 2) (v := .pointer (some ⟨g107, o108 + j * 18, none⟩)) fr rfl (by kernel_rfl) rfl rfl (by first | decide | simp) (fun _ _ _ h => h) (fun _ ⟨hV, B4, O45, B57, B68, B115, _⟩ => x_indexV Try.underlying26 sz39 rfl (fr.ev rfl) hA109 (fr.ev rfl) (by omega) rfl) ⟨hV, B4, O45, B57, B68, B115, trivial⟩ ?_
              clear fr a; intro a fr
              refine fx_take (i := 3) (v := .pointer (some ⟨g107, o108 + j * 18, none⟩)) fr rfl (by kernel_rfl) rfl rfl (by first | decide | simp) (fun _ _ _ h => h) (fun _ ⟨hV, B4, O45, B57, B68, B115, _⟩ => x_fieldAddr fo39_0 rfl (fr.ev rfl) rfl) ⟨hV, B4, O45, B57, B68, B115, trivial⟩ ?_
              clear fr a; intro a fr
              refine fx_take (i := 4) (v := .int .u32 (((allL n L).getD j ln0).num)) fr rfl (by kernel_rfl) rfl rfl (by first | decide | simp) (fun _ _ _ h => h) (fun _ ⟨hV, B4, O45, B57, B68, B115, _⟩ => x_load1 pl33 rfl (fr.ev rfl) (range_cell ((O45.view).elem hA109 j ln0 (by omega)) 0 rfl rfl)) ⟨hV, B4, O45, B57, B68, B115, trivial⟩ ?_
              clear fr a; intro a fr
              refine fx_take (i := 5) (v := .pointer (some ⟨b1, 1, none⟩)) fr rfl (by kernel_rfl) rfl rfl (by first | decide | simp) (fun _ _ _ h => h) (fun _ ⟨hV, B4, O45, B57, B68, B115, _⟩ => x_fieldAddr fo57_1 rfl (fr.ev rfl) rfl) ⟨hV, B4, O45, B57, B68, B115, trivial⟩ ?_
              clear fr a; intro a fr
              refine fx_take (i := 6) (v := .pointer (some ⟨b1, 1, none⟩)) fr rfl (by kernel_rfl) rfl rfl (by first | decide | simp) (fun _ _ _ h => h) (fun _ ⟨hV, B4, O45, B57, B68, B115, _⟩ => x_fieldAddr fo39_0 rfl (fr.ev rfl) rfl) ⟨hV, B4, O45, B57, B68, B115, trivial⟩ ?_
              clear fr a; intro a fr
              refine fx_take (i := 7) (v := .int .u32 q.ln.num) fr rfl (by kernel_rfl) rfl rfl (by first | decide | simp) (fun _ _ _ h => h) (fun _ ⟨hV, B4, O45, B57, B68, B115, _⟩ => x_load1 pl33 rfl (fr.ev rfl) (B4.cell 1 rfl)) ⟨hV, B4, O45, B57, B68, B115, trivial⟩ ?_
              clear fr a; intro a fr
              refine fx_take (i := 8) (v := .bool true) fr rfl (by kernel_rfl) rfl rfl (by first | decide | simp) (fun _ _ _ h => h) (fun _ ⟨hV, B4, O45, B57, B68, B115, _⟩ => x_neq rfl (fr.ev rfl) (fr.ev rfl) (by first | (exact decide_eq_true h1) | simp [h1])) ⟨hV, B4, O45, B57, B68, B115, trivial⟩ ?_
              clear fr a; intro a fr
              refine fx_take (i := 9) (v := .bool true) fr rfl (by kernel_rfl) rfl rfl (by first | decide | simp) (fun _ _ _ h => h) (fun _ ⟨hV, B4, O45, B57, B68, B115, _⟩ => x_move rfl (fr.ev rfl)) ⟨hV, B4, O45, B57, B68, B115, trivial⟩ ?_
              clear fr a; intro a fr
              refine fx_take (i := 10) (v := .slice A43 ((allL n L).length) cap44) fr rfl (by kernel_rfl) (fr.want rfl rfl rfl) rfl (by first | decide | simp) (fun _ _ _ h => h) (fun _ ⟨hV, B4, O45, B57, B68, B115, _⟩ => x_move rfl (fr.ev rfl)) ⟨hV, B4, O45, B57, B68, B115, trivial⟩ ?_
              clear fr a; intro a fr
              refine fx_take (i := 11) (v := .int .i64 ((j : Nat) : Int)) fr rfl (by kernel_rfl) (fr.want rfl rfl rfl) rfl (by first | decide | simp) (fun _ _ _ h => h) (fun _ ⟨hV, B4, O45, B57, B68, B115, _⟩ => x_move rfl (fr.ev rfl)) ⟨hV, B4, O45, B57, B68, B115, trivial⟩ ?_
              clear fr a; intro a fr
              refine fx_take (i := 12) (v := .pointer (some ⟨g107, o108 + j * 18, none⟩)) fr rfl (by kernel_rfl) (fr.want rfl rfl rfl) rfl (by first | decide | simp) (fun _ _ _ h => h) (fun _ ⟨hV, B4, O45, B57, B68, B115, _⟩ => x_indexV Try.underlying26 sz39 rfl (fr.ev rfl) hA109 (fr.ev rfl) (by omega) rfl) ⟨hV, B4, O45, B57, B68, B115, trivial⟩ ?_
              clear fr a; intro a fr
              refine fx_take (i := 13) (v := .agg (lnE.arr ((allL n L).getD j ln0))) fr rfl (by kernel_rfl) (fr.want rfl rfl rfl) rfl (by first | decide | simp) (fun _ _ _ h => h) (fun _ ⟨hV, B4, O45, B57, B68, B115, _⟩ => x_loadE (E := lnE) ag39 rfl rfl (fr.ev rfl) ((O45.view).elem hA109 j ln0 (by omega))) ⟨hV, B4, O45, B57, B68, B115, trivial⟩ ?_
              clear fr a; intro a fr
              refine fx_take (i := 14) (v := .agg (lnE.arr ln0)) fr rfl (by kernel_rfl) (fr.want rfl rfl rfl) rfl (by first | decide | simp) (fun _ _ _ h => h) (fun _ ⟨hV, B4, O45, B57, B68, B115, _⟩ => x_loadE (E := lnE) ag39 rfl rfl (fr.ev rfl) (B57.rangeE lnE)) ⟨hV, B4, O45, B57, B68, B115, trivial⟩ ?_
              clear fr a; intro a fr
              refine fx_take (i := 15) (v := .bool true) fr rfl (by kernel_rfl) (fr.want rfl rfl rfl) rfl (by first | decide | simp) (fun _ _ _ h => h) (fun _ ⟨hV, B4, O45, B57, B68, B115, _⟩ => x_neE lnER rfl rfl (fr.ev rfl) (fr.ev rfl) (by rw [decide_eq_false h2]; try rfl)) ⟨hV, B4, O45, B57, B68, B115, trivial⟩ ?_
              clear fr a; intro a fr
              refine fx_take (i := 16) (v := .bool true) fr rfl (by kernel_rfl) rfl rfl (by first | decide | simp) (fun _ _ _ h => h) (fun _ ⟨hV, B4, O45, B57, B68, B115, _⟩ => x_pick_t rfl (fr.ev rfl) (fr.ev rfl)) ⟨hV, B4, O45, B57, B68, B115, trivial⟩ ?_
              clear fr a; intro a fr
              refine fx_take (i := 17) (v := .bool true) fr rfl (by kernel_rfl) rfl rfl (by first | decide | simp) (fun _ _ _ h => h) (fun _ ⟨hV, B4, O45, B57, B68, B115, _⟩ => x_move rfl (fr.ev rfl)) ⟨hV, B4, O45, B57, B68, B115, trivial⟩ ?_
              clear fr a; intro a fr
              refine fx_take (i := 18) (v := .agg (lnE.arr ((allL n L).getD j ln0))) fr rfl (by kernel_rfl) (fr.want rfl rfl rfl) rfl (by first | decide | simp) (fun _ _ _ h => h) (fun _ ⟨hV, B4, O45, B57, B68, B115, _⟩ => x_loadE (E := lnE) ag39 rfl rfl (fr.ev rfl) (B115.rangeE lnE)) ⟨hV, B4, O45, B57, B68, B115, trivial⟩ ?_
              clear fr a; intro a fr
              refine fx_take (i := 19) (v := .slice A43 ((allL n L).length) cap44) fr rfl (by kernel_rfl) (fr.want rfl rfl rfl) rfl (by first | decide | simp) (fun _ _ _ h => h) (fun _ ⟨hV, B4, O45, B57, B68, B115, _⟩ => x_move rfl (fr.ev rfl)) ⟨hV, B4, O45, B57, B68, B115, trivial⟩ ?_
              clear fr a; intro a fr
              refine fx_take (i := 20) (v := .int .i64 ((j : Nat) : Int)) fr rfl (by kernel_rfl) (fr.want rfl rfl rfl) rfl (by first | decide | simp) (fun _ _ _ h => h) (fun _ ⟨hV, B4, O45, B57, B68, B115, _⟩ => x_move rfl (fr.ev rfl)) ⟨hV, B4, O45, B57, B68, B115, trivial⟩ ?_
              clear fr a; intro a fr
              refine fx_take (i := 21) (v := .pointer (some ⟨g107, o108 + j * 18, none⟩)) fr rfl (by kernel_rfl) (fr.want rfl rfl rfl) rfl (by first | decide | simp) (fun _ _ _ h => h) (fun _ ⟨hV, B4, O45, B57, B68, B115, _⟩ => x_indexV Try.underlying26 sz39 rfl (fr.ev rfl) hA109 (fr.ev rfl) (by omega) rfl) ⟨hV, B4, O45, B57, B68, B115, trivial⟩ ?_
              clear fr a; intro a fr
              refine fx_take (i := 22) (v := .agg (lnE.arr ((allL n L).getD j ln0))) fr rfl (by kernel_rfl) (fr.want rfl rfl rfl) rfl (by first | decide | simp) (fun _ _ _ h => h) (fun _ ⟨hV, B4, O45, B57, B68, B115, _⟩ => x_loadE (E := lnE) ag39 rfl rfl (fr.ev rfl) ((O45.view).elem hA109 j ln0 (by omega))) ⟨hV, B4, O45, B57, B68, B115, trivial⟩ ?_
              clear fr a; intro a fr
              refine fx_take (i := 23) (v := .bool false) fr rfl (by kernel_rfl) (fr.want rfl rfl rfl) rfl (by first | decide | simp) (fun _ _ _ h => h) (fun _ ⟨hV, B4, O45, B57, B68, B115, _⟩ => x_neE lnER rfl rfl (fr.ev rfl) (fr.ev rfl) (by simp)) ⟨hV, B4, O45, B57, B68, B115, trivial⟩ ?_
              clear fr a; intro a fr
              refine fx_take (i := 24) (v := .bool false) fr rfl (by kernel_rfl) (fr.want rfl rfl rfl) rfl (by first | decide | simp) (fun _ _ _ h => h) (fun _ ⟨hV, B4, O45, B57, B68, B115, _⟩ => x_move rfl (fr.ev rfl)) ⟨hV, B4, O45, B57, B68, B115, trivial⟩ ?_
              clear fr a; intro a fr
              refine fx_take (i := 25) (v := .bool true) fr rfl (by kernel_rfl) (fr.want rfl rfl rfl) rfl (by first | decide | simp) (fun _ _ _ h => h) (fun _ ⟨hV, B4, O45, B57, B68, B115, _⟩ => x_move rfl (fr.ev rfl)) ⟨hV, B4, O45, B57, B68, B115, trivial⟩ ?_
              clear fr a; intro a fr
              refine fx_take (i := 26) (v := .bool false) fr rfl (by kernel_rfl) (fr.want rfl rfl rfl) rfl (by first | decide | simp) (fun _ _ _ h => h) (fun _ ⟨hV, B4, O45, B57, B68, B115, _⟩ => x_not rfl (fr.ev rfl) rfl) ⟨hV, B4, O45, B57, B68, B115, trivial⟩ ?_
              clear fr a; intro a fr
              refine fx_take (i := 27) (v := .bool false) fr rfl (by kernel_rfl) (fr.want rfl rfl rfl) rfl (by first | decide | simp) (fun _ _ _ h => h) (fun _ ⟨hV, B4, O45, B57, B68, B115, _⟩ => x_pick_f rfl (fr.ev rfl) (fr.ev rfl)) ⟨hV, B4, O45, B57, B68, B115, trivial⟩ ?_
              clear fr a; intro a fr
              refine fx_take (i := 28) (v := .bool false) fr rfl (by kernel_rfl) rfl rfl (by first | decide | simp) (fun _ _ _ h => h) (fun _ ⟨hV, B4, O45, B57, B68, B115, _⟩ => x_pick_t rfl (fr.ev rfl) (fr.ev rfl)) ⟨hV, B4, O45, B57, B68, B115, trivial⟩ ?_
              clear fr a; intro a fr
              refine fx_hdone (by kernel_rfl) ?_
              refine fx_next ?_
              refine fx_cond_f fr rfl ?_
              refine wp_skip ?_
              refine fx_blk ?_
              refine fx_next ?_
              refine wp_region_lit ?_  -- region 24
              refine fx_val (v := .int .i64 ((j : Nat) : Int)) fr rfl rfl (by first | decide | simp) (x_move rfl (fr.ev rfl)) ?_
              clear fr a; intro a fr
              refine fx_val (v := .int .i64 ((j + 1 : Nat) : Int)) fr rfl rfl (by first | decide | simp) (x_add rfl (fr.ev rfl) rfl (i64w (r := ((j + 1 : Nat) : Int)) (by omega) (by omega))) ?_
              clear fr a; intro a fr
              refine fx_val (v := .int .i64 ((j + 1 : Nat) : Int)) fr rfl rfl (by first | decide | simp) (x_assign rfl (fr.ev rfl)) ?_
              clear fr a; intro a fr
              refine wpList_nil ?_
              refine fx_next ?_
              exact ⟨_, by omega, (j + 1), rfl, fr.sub ⟨rfl, rfl, rfl, rfl, rfl, rfl, trivial⟩, hF, hV, B4, O45, H50, B57, B68, by omega⟩
        · skip
          have hc78 := of_decide_eq_false hc78
          refine wp_exit ?_
          refine fx_xt ?_
          refine fx_xt ?_
          refine fx_xx ?_
          refine fx_next ?_
          refine wp_seq ?_
          refine wp_region_lit ?_  -- region 28
          refine fx_call fr rfl rfl (by first | decide | simp) (x_call (vs := []) rfl rfl trivial Try.func11 nm11 rfl) (works_c _) ?_
          clear fr a
          rintro v w121 ⟨rfl, hN122⟩ a fr
          replace hV := hV.new hN122
          replace B4 := B4.new hN122
          replace O45 := O45.new hN122
          replace H50 := H50.new hN122
          replace B57 := B57.new hN122
          replace B68 := B68.new hN122
          replace hF := hF.trNew hN122
          refine fx_val (v := .bool true) fr rfl rfl (by first | decide | simp) (x_assign rfl (fr.ev rfl)) ?_
          clear fr a; intro a fr
          refine wpList_nil ?_
          refine fx_next ?_
          refine wp_ret ?_
          refine fx_ret fr [.tmp 10] [.bool true] rfl ⟨rfl, trivial⟩ rfl ?_
          exact ⟨_, rfl, rfl, hF⟩
      · skip
        obtain ⟨g, hg, hgm, hgs⟩ := vic_yes (pick := pick) hgn hww (by omega)
        have hgb := g.hn
        have hne9 := tmod_same hgb.1 hqn.1 (by omega) hgs
        have he2 := room_put (n := n) (ways := ways) hu hft hst (by omega) hgn hgm hgs
        have hfind := get_put_same he2
        have hkeep := kept_room (n := n) (ways := ways) (l := q.ln) hu hgm
        have hdl := dropL_le L g.num
        have hpl2 := putL_le n ways (dropL L g.num) q.ln
        refine wp_region_lit ?_  -- region 11
        refine fx_val (v := .pointer (some ⟨b20, 0, none⟩)) fr rfl rfl (by first | decide | simp) (x_move rfl (fr.ev rfl)) ?_
        clear fr a; intro a fr
        refine fx_val (v := .pointer (some ⟨b1, 1, none⟩)) fr rfl rfl (by first | decide | simp) (x_fieldAddr fo57_1 rfl (fr.ev rfl) rfl) ?_
        clear fr a; intro a fr
        refine fx_val (v := .agg (lnE.arr q.ln)) fr rfl rfl (by first | decide | simp) (x_loadE (E := lnE) ag39 rfl rfl (fr.ev rfl) (B4.part (act_lnA _))) ?_
        clear fr a; intro a fr
        refine fx_call fr rfl rfl (by first | decide | simp) (x_call (vs := [.pointer (some ⟨b20, 0, none⟩), .agg (lnE.arr q.ln)]) rfl rfl ⟨(fr.ev rfl), (fr.ev rfl), trivial⟩ Try.func21 nm21 rfl) (put_c q.ln H) ?_
        clear fr a
        rintro v w126 ⟨rfl, Fp123, H124, hN127, mv125⟩ a fr
        have ap2_Fp123_P : ∀ k, Fp123 k → inA P k → False := moved_apart2P mv125 (symP ap2_P_FpX) fun _ hg => hV.lt hg
        have ap_Fp123_b1 : ¬ Fp123 b1 := moved_apartP mv125 ap_FpX_b1 B4.lt
        have ap2_Fp123_A43 : ∀ k, Fp123 k → inA A43 k → False := moved_apart2P mv125 ap2_FpX_A43 fun _ hg => O45.lt hg
        have gA_Fp123 := gA_movedP hF mv125 gA_FpX
        replace hV := hV.only hN127 (fun g h1 h2 => ap2_P_FpX g h1 h2)
        replace B4 := B4.only hN127 ap_FpX_b1
        replace O45 := O45.only hN127 (fun g h1 h2 => (symP ap2_FpX_A43) g h1 h2)
        replace hF := hF.locP hN127 gA_FpX
        clear H
        rw [hpe] at H124
        rw [he] at fr
        refine fx_val (v := .int .i64 200) fr rfl rfl (by first | decide | simp) (x_assign rfl (fr.ev rfl)) ?_
        clear fr a; intro a fr
        refine wpList_nil ?_
        refine fx_next ?_
        refine wp_seq ?_
        have hal := allL_len hq1 L
        refine wp_region_lit ?_  -- region 12
        refine fx_val (v := .agg (lnE.arr ln0)) fr rfl rfl (by first | decide | simp) (x_build (cells := lnE.arr ln0) rfl (by kernel_rfl)) ?_
        clear fr a; intro a fr
        refine fx_new fr rfl rfl (by first | decide | simp) (x_alloc (z := .agg (#[.int .u32 0, .int .i64 0, .int .u8 0, .int .u8 0, .int .u8 0, .int .u8 0, .int .u8 0, .int .u8 0, .int .u8 0, .int .u8 0, .int .u8 0, .int .u8 0, .int .u8 0, .int .u8 0, .int .u8 0, .int .u8 0, .int .u8 0, .int .u8 0])) (cs := lnE.arr ln0) rfl (by kernel_rfl) rfl) ?_
        clear fr a
        intro b128 w129 hN130 B131 hb132 a fr
        have ap_P_b128 : Apart P b128 := hV.apart hb132
        have ne_b1_b128 : NE b1 b128 := NE.mk (Nat.lt_of_lt_of_le B4.lt hb132)
        have ap_A43_b128 : Apart A43 b128 := O45.apart hb132
        have ap_Fp123_b128 : ¬ Fp123 b128 := H124.apart hb132
        have g_b128 := Nat.le_trans hF.size hb132
        replace hV := hV.new hN130
        replace B4 := B4.new hN130
        replace O45 := O45.new hN130
        replace H124 := H124.new hN130
        replace hF := hF.trNew hN130
        refine fx_storeS sz39 rfl rfl rfl (fr.ev rfl) (fr.ev rfl) (lnE.all _) B131 (lnE.size _) (lnE.size _) fun w133 hO134 hBq => ?_
        replace hV := hV.only hO134 (Apart.ne1 ap_P_b128)
        replace B4 := B4.only hO134 (by first | exact ne_b1_b128 | exact ne_b128_b1.symm | (show ¬ b1 = b128; omega))
        replace O45 := O45.only hO134 (Apart.ne1 ap_A43_b128)
        replace H124 := H124.only hO134 (ne1P ap_Fp123_b128)
        replace hF := hF.loc hO134 (.inr g_b128)
        replace B131 := hBq
        clear hBq
        refine wpList_nil ?_
        refine fx_next ?_
        refine wp_seq ?_
        refine wp_seq ?_
        refine wp_region_lit ?_  -- region 13
        refine fx_val (v := .int .i64 200) fr rfl rfl (by first | decide | simp) (x_move rfl (fr.ev rfl)) ?_
        clear fr a; intro a fr
        refine fx_call fr rfl rfl (by first | decide | simp) (x_call (vs := [.int .i64 200]) rfl rfl ⟨(fr.ev rfl), trivial⟩ Try.func20 nm20 rfl) (num_c 200 _) ?_
        clear fr a
        rintro v w9 ⟨rfl, hw9⟩ a fr
        obtain rfl := hw9.symm
        refine fx_val (v := .bool true) fr rfl rfl (by first | decide | simp) (x_eql rfl (fr.ev rfl) rfl rfl) ?_
        clear fr a; intro a fr
        refine wpList_nil ?_
        refine fx_next ?_
        refine fx_cond_t fr rfl ?_
        refine wp_seq ?_
        refine wp_region_lit ?_  -- region 14
        refine fx_val (v := .pointer (some ⟨b20, 0, none⟩)) fr rfl rfl (by first | decide | simp) (x_move rfl (fr.ev rfl)) ?_
        clear fr a; intro a fr
        refine fx_val (v := .pointer (some ⟨b1, 1, none⟩)) fr rfl rfl (by first | decide | simp) (x_fieldAddr fo57_1 rfl (fr.ev rfl) rfl) ?_
        clear fr a; intro a fr
        refine fx_val (v := .pointer (some ⟨b1, 1, none⟩)) fr rfl rfl (by first | decide | simp) (x_fieldAddr fo39_0 rfl (fr.ev rfl) rfl) ?_
        clear fr a; intro a fr
        refine fx_val (v := .int .u32 q.ln.num) fr rfl rfl (by first | decide | simp) (x_load1 pl33 rfl (fr.ev rfl) (B4.cell 1 rfl)) ?_
        clear fr a; intro a fr
        refine fx_val (v := .int .i64 pick) fr rfl rfl (by first | decide | simp) (x_move rfl (fr.ev rfl)) ?_
        clear fr a; intro a fr
        refine fx_call fr rfl rfl (by first | decide | simp) (x_call (vs := [.pointer (some ⟨b20, 0, none⟩), .int .u32 q.ln.num, .int .i64 pick]) rfl rfl ⟨(fr.ev rfl), (fr.ev rfl), (fr.ev rfl), trivial⟩ Try.func15 nm15 rfl) (victim_c q.ln.num (by omega) pick H124) ?_
        clear fr a
        rintro v w137 ⟨rfl, hN138⟩ a fr
        replace hV := hV.new hN138
        replace B4 := B4.new hN138
        replace O45 := O45.new hN138
        replace H124 := H124.new hN138
        replace B131 := B131.new hN138
        replace hF := hF.trNew hN138
        rw [show vicL n ways L q.ln.num pick = some g from hg] at fr
        simp only [Option.getD_some, Option.isSome_some] at fr
        refine fx_val (v := .tuple #[.agg (lnE.arr g), .bool true]) fr rfl rfl (by first | decide | simp) (x_move rfl (fr.ev rfl)) ?_
        clear fr a; intro a fr
        refine fx_val (v := .agg (lnE.arr g)) fr rfl rfl (by first | decide | simp) (x_extract rfl (fr.ev rfl) rfl) ?_
        clear fr a; intro a fr
        refine fx_val (v := .bool true) fr rfl rfl (by first | decide | simp) (x_extract rfl (fr.ev rfl) rfl) ?_
        clear fr a; intro a fr
        refine fx_new fr rfl rfl (by first | decide | simp) (x_alloc (z := .agg (#[.int .u32 0, .int .i64 0, .int .u8 0, .int .u8 0, .int .u8 0, .int .u8 0, .int .u8 0, .int .u8 0, .int .u8 0, .int .u8 0, .int .u8 0, .int .u8 0, .int .u8 0, .int .u8 0, .int .u8 0, .int .u8 0, .int .u8 0, .int .u8 0])) (cs := lnE.arr ln0) rfl (by kernel_rfl) rfl) ?_
        clear fr a
        intro b139 w140 hN141 B142 hb143 a fr
        have ap_P_b139 : Apart P b139 := hV.apart hb143
        have ne_b1_b139 : NE b1 b139 := NE.mk (Nat.lt_of_lt_of_le B4.lt hb143)
        have ap_A43_b139 : Apart A43 b139 := O45.apart hb143
        have ap_Fp123_b139 : ¬ Fp123 b139 := H124.apart hb143
        have ne_b128_b139 : NE b128 b139 := NE.mk (Nat.lt_of_lt_of_le B131.lt hb143)
        have g_b139 := Nat.le_trans hF.size hb143
        replace hV := hV.new hN141
        replace B4 := B4.new hN141
        replace O45 := O45.new hN141
        replace H124 := H124.new hN141
        replace B131 := B131.new hN141
        replace hF := hF.trNew hN141
        refine fx_storeS sz39 rfl rfl rfl (fr.ev rfl) (fr.ev rfl) (lnE.all _) B142 (lnE.size _) (lnE.size _) fun w144 hO145 hBq => ?_
        replace hV := hV.only hO145 (Apart.ne1 ap_P_b139)
        replace B4 := B4.only hO145 (by first | exact ne_b1_b139 | exact ne_b139_b1.symm | (show ¬ b1 = b139; omega))
        replace O45 := O45.only hO145 (Apart.ne1 ap_A43_b139)
        replace H124 := H124.only hO145 (ne1P ap_Fp123_b139)
        replace B131 := B131.only hO145 (by first | exact ne_b128_b139 | exact ne_b139_b128.symm | (show ¬ b128 = b139; omega))
        replace hF := hF.loc hO145 (.inr g_b139)
        replace B142 := hBq
        clear hBq
        refine fx_val (v := .bool true) fr rfl rfl (by first | decide | simp) (x_assign rfl (fr.ev rfl)) ?_
        clear fr a; intro a fr
        refine wpList_nil ?_
        refine fx_next ?_
        refine wp_seq ?_
        refine wp_seq ?_
        refine fx_held (n := 23) (fun w => View actE w P cp la ∧ Blk w b1 57 (actE.arr q) ∧ Own lnE w A43 cap44 (allL n L) ∧ Blk w b128 39 (lnE.arr ln0) ∧ Blk w b139 39 (lnE.arr g) ∧ True) (by kernel_rfl) rfl ?_  -- region 15
        intro w146 hN147
        replace hV := hV.new hN147
        replace B4 := B4.new hN147
        replace O45 := O45.new hN147
        replace H124 := H124.new hN147
        replace B131 := B131.new hN147
        replace B142 := B142.new hN147
        replace hF := hF.trNew hN147
        refine fx_take (i := 0) (v := .bool true) fr rfl (by kernel_rfl) rfl rfl (by first | decide | simp) (fun _ _ _ h => h) (fun _ ⟨hV, B4, O45, B131, B142, _⟩ => x_move rfl (fr.ev rfl)) ⟨hV, B4, O45, B131, B142, trivial⟩ ?_
        clear fr a; intro a fr
        refine fx_take (i := 1) (v := .bool false) fr rfl (by kernel_rfl) rfl rfl (by first | decide | simp) (fun _ _ _ h => h) (fun _ ⟨hV, B4, O45, B131, B142, _⟩ => x_not rfl (fr.ev rfl) rfl) ⟨hV, B4, O45, B131, B142, trivial⟩ ?_
        clear fr a; intro a fr
        refine fx_take (i := 2) (v := .bool false) fr rfl (by kernel_rfl) rfl rfl (by first | decide | simp) (fun _ _ _ h => h) (fun _ ⟨hV, B4, O45, B131, B142, _⟩ => x_move rfl (fr.ev rfl)) ⟨hV, B4, O45, B131, B142, trivial⟩ ?_
        clear fr a; intro a fr
        refine fx_take (i := 3) (v := .pointer (some ⟨b139, 0, none⟩)) fr rfl (by kernel_rfl) (fr.want rfl rfl rfl) rfl (by first | decide | simp) (fun _ _ _ h => h) (fun _ ⟨hV, B4, O45, B131, B142, _⟩ => x_fieldAddr fo39_0 rfl (fr.ev rfl) rfl) ⟨hV, B4, O45, B131, B142, trivial⟩ ?_
        clear fr a; intro a fr
        refine fx_take (i := 4) (v := .int .u32 g.num) fr rfl (by kernel_rfl) (fr.want rfl rfl rfl) rfl (by first | decide | simp) (fun _ _ _ h => h) (fun _ ⟨hV, B4, O45, B131, B142, _⟩ => x_load1 pl33 rfl (fr.ev rfl) (B142.cell 0 rfl)) ⟨hV, B4, O45, B131, B142, trivial⟩ ?_
        clear fr a; intro a fr
        refine fx_take (i := 5) (v := .int .i64 ((n : Nat) : Int)) fr rfl (by kernel_rfl) (fr.want rfl rfl rfl) rfl (by first | decide | simp) (fun _ _ _ h => h) (fun _ ⟨hV, B4, O45, B131, B142, _⟩ => x_move rfl (fr.ev rfl)) ⟨hV, B4, O45, B131, B142, trivial⟩ ?_
        clear fr a; intro a fr
        refine fx_take (i := 6) (v := .int .u32 ((n : Nat) : Int)) fr rfl (by kernel_rfl) (fr.want rfl rfl rfl) rfl (by first | decide | simp) (fun _ _ _ h => h) (fun _ ⟨hV, B4, O45, B131, B142, _⟩ => x_convert Try.underlying3 Try.underlying33 rfl (fr.ev rfl) (u32w (r := ((n : Nat) : Int)) rfl (by omega))) ⟨hV, B4, O45, B131, B142, trivial⟩ ?_
        clear fr a; intro a fr
        refine fx_take (i := 7) (v := .int .u32 (Int.tmod g.num ((n : Nat) : Int))) fr rfl (by kernel_rfl) (fr.want rfl rfl rfl) rfl (by first | decide | simp) (fun _ _ _ h => h) (fun _ ⟨hV, B4, O45, B131, B142, _⟩ => x_rem rfl (fr.ev rfl) (fr.ev rfl) (by omega) rfl) ⟨hV, B4, O45, B131, B142, trivial⟩ ?_
        clear fr a; intro a fr
        refine fx_take (i := 8) (v := .pointer (some ⟨b1, 1, none⟩)) fr rfl (by kernel_rfl) (fr.want rfl rfl rfl) rfl (by first | decide | simp) (fun _ _ _ h => h) (fun _ ⟨hV, B4, O45, B131, B142, _⟩ => x_fieldAddr fo57_1 rfl (fr.ev rfl) rfl) ⟨hV, B4, O45, B131, B142, trivial⟩ ?_
        clear fr a; intro a fr
        refine fx_take (i := 9) (v := .pointer (some ⟨b1, 1, none⟩)) fr rfl (by kernel_rfl) (fr.want rfl rfl rfl) rfl (by first | decide | simp) (fun _ _ _ h => h) (fun _ ⟨hV, B4, O45, B131, B142, _⟩ => x_fieldAddr fo39_0 rfl (fr.ev rfl) rfl) ⟨hV, B4, O45, B131, B142, trivial⟩ ?_
        clear fr a; intro a fr
        refine fx_take (i := 10) (v := .int .u32 q.ln.num) fr rfl (by kernel_rfl) (fr.want rfl rfl rfl) rfl (by first | decide | simp) (fun _ _ _ h => h) (fun _ ⟨hV, B4, O45, B131, B142, _⟩ => x_load1 pl33 rfl (fr.ev rfl) (B4.cell 1 rfl)) ⟨hV, B4, O45, B131, B142, trivial⟩ ?_
        clear fr a; intro a fr
        refine fx_take (i := 11) (v := .int .i64 ((n : Nat) : Int)) fr rfl (by kernel_rfl) (fr.want rfl rfl rfl) rfl (by first | decide | simp) (fun _ _ _ h => h) (fun _ ⟨hV, B4, O45, B131, B142, _⟩ => x_move rfl (fr.ev rfl)) ⟨hV, B4, O45, B131, B142, trivial⟩ ?_
        clear fr a; intro a fr
        refine fx_take (i := 12) (v := .int .u32 ((n : Nat) : Int)) fr rfl (by kernel_rfl) (fr.want rfl rfl rfl) rfl (by first | decide | simp) (fun _ _ _ h => h) (fun _ ⟨hV, B4, O45, B131, B142, _⟩ => x_convert Try.underlying3 Try.underlying33 rfl (fr.ev rfl) (u32w (r := ((n : Nat) : Int)) rfl (by omega))) ⟨hV, B4, O45, B131, B142, trivial⟩ ?_
        clear fr a; intro a fr
        refine fx_take (i := 13) (v := .int .u32 (Int.tmod q.ln.num ((n : Nat) : Int))) fr rfl (by kernel_rfl) (fr.want rfl rfl rfl) rfl (by first | decide | simp) (fun _ _ _ h => h) (fun _ ⟨hV, B4, O45, B131, B142, _⟩ => x_rem rfl (fr.ev rfl) (fr.ev rfl) (by omega) rfl) ⟨hV, B4, O45, B131, B142, trivial⟩ ?_
        clear fr a; intro a fr
        refine fx_take (i := 14) (v := .bool false) fr rfl (by kernel_rfl) (fr.want rfl rfl rfl) rfl (by first | decide | simp) (fun _ _ _ h => h) (fun _ ⟨hV, B4, O45, B131, B142, _⟩ => x_neq rfl (fr.ev rfl) (fr.ev rfl) (decide_eq_false (fun h => h hne9))) ⟨hV, B4, O45, B131, B142, trivial⟩ ?_
        clear fr a; intro a fr
        refine fx_take (i := 15) (v := .bool false) fr rfl (by kernel_rfl) rfl rfl (by first | decide | simp) (fun _ _ _ h => h) (fun _ ⟨hV, B4, O45, B131, B142, _⟩ => x_pick_f rfl (fr.ev rfl) (fr.ev rfl)) ⟨hV, B4, O45, B131, B142, trivial⟩ ?_
        clear fr a; intro a fr
        refine fx_take (i := 16) (v := .bool false) fr rfl (by kernel_rfl) rfl rfl (by first | decide | simp) (fun _ _ _ h => h) (fun _ ⟨hV, B4, O45, B131, B142, _⟩ => x_move rfl (fr.ev rfl)) ⟨hV, B4, O45, B131, B142, trivial⟩ ?_
        clear fr a; intro a fr
        refine fx_take (i := 17) (v := .pointer (some ⟨b20, 0, none⟩)) fr rfl (by kernel_rfl) (fr.want rfl rfl rfl) rfl (by first | decide | simp) (fun _ _ _ h => h) (fun _ ⟨hV, B4, O45, B131, B142, _⟩ => x_move rfl (fr.ev rfl)) ⟨hV, B4, O45, B131, B142, trivial⟩ ?_
        clear fr a; intro a fr
        refine fx_take (i := 18) (v := .pointer (some ⟨b139, 0, none⟩)) fr rfl (by kernel_rfl) (fr.want rfl rfl rfl) rfl (by first | decide | simp) (fun _ _ _ h => h) (fun _ ⟨hV, B4, O45, B131, B142, _⟩ => x_fieldAddr fo39_0 rfl (fr.ev rfl) rfl) ⟨hV, B4, O45, B131, B142, trivial⟩ ?_
        clear fr a; intro a fr
        refine fx_take (i := 19) (v := .int .u32 g.num) fr rfl (by kernel_rfl) (fr.want rfl rfl rfl) rfl (by first | decide | simp) (fun _ _ _ h => h) (fun _ ⟨hV, B4, O45, B131, B142, _⟩ => x_load1 pl33 rfl (fr.ev rfl) (B142.cell 0 rfl)) ⟨hV, B4, O45, B131, B142, trivial⟩ ?_
        clear fr a; intro a fr
        refine fx_one (i := 20) (by kernel_rfl) (fx_op rfl ?_)
        refine fx_call fr (fr.want rfl rfl rfl) rfl (by first | decide | simp) (x_call (vs := [.pointer (some ⟨b20, 0, none⟩), .int .u32 g.num]) rfl rfl ⟨(fr.ev rfl), (fr.ev rfl), trivial⟩ Try.func22 nm22 rfl) (drop_c g.num (by omega) H124) ?_
        clear fr a
        rintro v w151 ⟨rfl, Fp148, H149, hN152, mv150⟩ a fr
        have ap2_Fp148_P : ∀ k, Fp148 k → inA P k → False := moved_apart2P mv150 ap2_Fp123_P fun _ hg => hV.lt hg
        have ap_Fp148_b1 : ¬ Fp148 b1 := moved_apartP mv150 ap_Fp123_b1 B4.lt
        have ap2_Fp148_A43 : ∀ k, Fp148 k → inA A43 k → False := moved_apart2P mv150 ap2_Fp123_A43 fun _ hg => O45.lt hg
        have ap_Fp148_b128 : ¬ Fp148 b128 := moved_apartP mv150 ap_Fp123_b128 B131.lt
        have ap_Fp148_b139 : ¬ Fp148 b139 := moved_apartP mv150 ap_Fp123_b139 B142.lt
        have gA_Fp148 := gA_movedP hF mv150 gA_Fp123
        replace hV := hV.only hN152 (fun g h1 h2 => (symP ap2_Fp123_P) g h1 h2)
        replace B4 := B4.only hN152 ap_Fp123_b1
        replace O45 := O45.only hN152 (fun g h1 h2 => (symP ap2_Fp123_A43) g h1 h2)
        replace B131 := B131.only hN152 ap_Fp123_b128
        replace B142 := B142.only hN152 ap_Fp123_b139
        replace hF := hF.locP hN152 gA_Fp123
        clear H124
        rw [show (getN L g.num).isSome = true by rw [mem_get hu hgm]; rfl] at fr
        refine wpList_nil ?_
        refine ⟨⟨hV, B4, O45, B131, B142, trivial⟩, ?_⟩
        refine fx_take (i := 21) (v := .bool false) fr rfl (by kernel_rfl) (fr.want rfl rfl rfl) rfl (by first | decide | simp) (fun _ _ _ h => h) (fun _ ⟨hV, B4, O45, B131, B142, _⟩ => x_not rfl (fr.ev rfl) rfl) ⟨hV, B4, O45, B131, B142, trivial⟩ ?_
        clear fr a; intro a fr
        refine fx_take (i := 22) (v := .bool false) fr rfl (by kernel_rfl) rfl rfl (by first | decide | simp) (fun _ _ _ h => h) (fun _ ⟨hV, B4, O45, B131, B142, _⟩ => x_pick_f rfl (fr.ev rfl) (fr.ev rfl)) ⟨hV, B4, O45, B131, B142, trivial⟩ ?_
        clear fr a; intro a fr
        refine fx_hdone (by kernel_rfl) ?_
        refine fx_next ?_
        refine fx_cond_f fr rfl ?_
        refine wp_skip ?_
        refine fx_next ?_
        refine wp_seq ?_
        refine wp_region_lit ?_  -- region 17
        refine fx_val (v := .agg (lnE.arr g)) fr rfl rfl (by first | decide | simp) (x_loadE (E := lnE) ag39 rfl rfl (fr.ev rfl) (B142.rangeE lnE)) ?_
        clear fr a; intro a fr
        refine fx_storeS sz39 rfl rfl rfl (fr.ev rfl) (fr.ev rfl) (lnE.all _) B131 (lnE.size _) (lnE.size _) fun w153 hO154 hBq => ?_
        replace hV := hV.only hO154 (Apart.ne1 ap_P_b128)
        replace B4 := B4.only hO154 (by first | exact ne_b1_b128 | exact ne_b128_b1.symm | (show ¬ b1 = b128; omega))
        replace O45 := O45.only hO154 (Apart.ne1 ap_A43_b128)
        replace B142 := B142.only hO154 (by first | exact ne_b139_b128 | exact ne_b128_b139.symm | (show ¬ b139 = b128; omega))
        replace H149 := H149.only hO154 (ne1P ap_Fp148_b128)
        replace hF := hF.loc hO154 (.inr g_b128)
        replace B131 := hBq
        clear hBq
        refine wpList_nil ?_
        refine fx_next ?_
        refine wp_region_lit ?_  -- region 18
        refine fx_val (v := .pointer (some ⟨b20, 0, none⟩)) fr rfl rfl (by first | decide | simp) (x_move rfl (fr.ev rfl)) ?_
        clear fr a; intro a fr
        refine fx_val (v := .pointer (some ⟨b1, 1, none⟩)) fr rfl rfl (by first | decide | simp) (x_fieldAddr fo57_1 rfl (fr.ev rfl) rfl) ?_
        clear fr a; intro a fr
        refine fx_val (v := .agg (lnE.arr q.ln)) fr rfl rfl (by first | decide | simp) (x_loadE (E := lnE) ag39 rfl rfl (fr.ev rfl) (B4.part (act_lnA _))) ?_
        clear fr a; intro a fr
        refine fx_call fr rfl rfl (by first | decide | simp) (x_call (vs := [.pointer (some ⟨b20, 0, none⟩), .agg (lnE.arr q.ln)]) rfl rfl ⟨(fr.ev rfl), (fr.ev rfl), trivial⟩ Try.func21 nm21 rfl) (put_c q.ln H149) ?_
        clear fr a
        rintro v w158 ⟨rfl, Fp155, H156, hN159, mv157⟩ a fr
        have ap2_Fp155_P : ∀ k, Fp155 k → inA P k → False := moved_apart2P mv157 ap2_Fp148_P fun _ hg => hV.lt hg
        have ap_Fp155_b1 : ¬ Fp155 b1 := moved_apartP mv157 ap_Fp148_b1 B4.lt
        have ap2_Fp155_A43 : ∀ k, Fp155 k → inA A43 k → False := moved_apart2P mv157 ap2_Fp148_A43 fun _ hg => O45.lt hg
        have ap_Fp155_b139 : ¬ Fp155 b139 := moved_apartP mv157 ap_Fp148_b139 B142.lt
        have ap_Fp155_b128 : ¬ Fp155 b128 := moved_apartP mv157 ap_Fp148_b128 B131.lt
        have gA_Fp155 := gA_movedP hF mv157 gA_Fp148
        replace hV := hV.only hN159 (fun g h1 h2 => (symP ap2_Fp148_P) g h1 h2)
        replace B4 := B4.only hN159 ap_Fp148_b1
        replace O45 := O45.only hN159 (fun g h1 h2 => (symP ap2_Fp148_A43) g h1 h2)
        replace B142 := B142.only hN159 ap_Fp148_b139
        replace B131 := B131.only hN159 ap_Fp148_b128
        replace hF := hF.locP hN159 gA_Fp148
        clear H149
        rw [he2] at fr
        refine fx_val (v := .int .i64 0) fr rfl rfl (by first | decide | simp) (x_assign rfl (fr.ev rfl)) ?_
        clear fr a; intro a fr
        refine wpList_nil ?_
        refine fx_next ?_
        refine wp_seq ?_
        refine wp_region_lit ?_  -- region 19
        refine fx_val (v := .pointer (some ⟨b20, 0, none⟩)) fr rfl rfl (by first | decide | simp) (x_move rfl (fr.ev rfl)) ?_
        clear fr a; intro a fr
        refine fx_val (v := .pointer (some ⟨b1, 1, none⟩)) fr rfl rfl (by first | decide | simp) (x_fieldAddr fo57_1 rfl (fr.ev rfl) rfl) ?_
        clear fr a; intro a fr
        refine fx_val (v := .pointer (some ⟨b1, 1, none⟩)) fr rfl rfl (by first | decide | simp) (x_fieldAddr fo39_0 rfl (fr.ev rfl) rfl) ?_
        clear fr a; intro a fr
        refine fx_val (v := .int .u32 q.ln.num) fr rfl rfl (by first | decide | simp) (x_load1 pl33 rfl (fr.ev rfl) (B4.cell 1 rfl)) ?_
        clear fr a; intro a fr
        refine fx_call fr rfl rfl (by first | decide | simp) (x_call (vs := [.pointer (some ⟨b20, 0, none⟩), .int .u32 q.ln.num]) rfl rfl ⟨(fr.ev rfl), (fr.ev rfl), trivial⟩ Try.func14 nm14 rfl) (find_c q.ln.num (by omega) H156) ?_
        clear fr a
        rintro v w160 ⟨rfl, hN161⟩ a fr
        replace hV := hV.new hN161
        replace B4 := B4.new hN161
        replace O45 := O45.new hN161
        replace B142 := B142.new hN161
        replace B131 := B131.new hN161
        replace H156 := H156.new hN161
        replace hF := hF.trNew hN161
        rw [show getN (putL n ways (dropL L g.num) q.ln) q.ln.num = some q.ln from hfind] at fr
        simp only [Option.getD_some, Option.isSome_some] at fr
        refine fx_val (v := .tuple #[.agg (lnE.arr q.ln), .bool true]) fr rfl rfl (by first | decide | simp) (x_move rfl (fr.ev rfl)) ?_
        clear fr a; intro a fr
        refine fx_val (v := .agg (lnE.arr q.ln)) fr rfl rfl (by first | decide | simp) (x_extract rfl (fr.ev rfl) rfl) ?_
        clear fr a; intro a fr
        refine fx_val (v := .bool true) fr rfl rfl (by first | decide | simp) (x_extract rfl (fr.ev rfl) rfl) ?_
        clear fr a; intro a fr
        refine fx_new fr rfl rfl (by first | decide | simp) (x_alloc (z := .agg (#[.int .u32 0, .int .i64 0, .int .u8 0, .int .u8 0, .int .u8 0, .int .u8 0, .int .u8 0, .int .u8 0, .int .u8 0, .int .u8 0, .int .u8 0, .int .u8 0, .int .u8 0, .int .u8 0, .int .u8 0, .int .u8 0, .int .u8 0, .int .u8 0])) (cs := lnE.arr ln0) rfl (by kernel_rfl) rfl) ?_
        clear fr a
        intro b162 w163 hN164 B165 hb166 a fr
        have ap_P_b162 : Apart P b162 := hV.apart hb166
        have ne_b1_b162 : NE b1 b162 := NE.mk (Nat.lt_of_lt_of_le B4.lt hb166)
        have ap_A43_b162 : Apart A43 b162 := O45.apart hb166
        have ne_b139_b162 : NE b139 b162 := NE.mk (Nat.lt_of_lt_of_le B142.lt hb166)
        have ne_b128_b162 : NE b128 b162 := NE.mk (Nat.lt_of_lt_of_le B131.lt hb166)
        have ap_Fp155_b162 : ¬ Fp155 b162 := H156.apart hb166
        have g_b162 := Nat.le_trans hF.size hb166
        replace hV := hV.new hN164
        replace B4 := B4.new hN164
        replace O45 := O45.new hN164
        replace B142 := B142.new hN164
        replace B131 := B131.new hN164
        replace H156 := H156.new hN164
        replace hF := hF.trNew hN164
        refine fx_storeS sz39 rfl rfl rfl (fr.ev rfl) (fr.ev rfl) (lnE.all _) B165 (lnE.size _) (lnE.size _) fun w167 hO168 hBq => ?_
        replace hV := hV.only hO168 (Apart.ne1 ap_P_b162)
        replace B4 := B4.only hO168 (by first | exact ne_b1_b162 | exact ne_b162_b1.symm | (show ¬ b1 = b162; omega))
        replace O45 := O45.only hO168 (Apart.ne1 ap_A43_b162)
        replace B142 := B142.only hO168 (by first | exact ne_b139_b162 | exact ne_b162_b139.symm | (show ¬ b139 = b162; omega))
        replace B131 := B131.only hO168 (by first | exact ne_b128_b162 | exact ne_b162_b128.symm | (show ¬ b128 = b162; omega))
        replace H156 := H156.only hO168 (ne1P ap_Fp155_b162)
        replace hF := hF.loc hO168 (.inr g_b162)
        replace B165 := hBq
        clear hBq
        refine fx_val (v := .bool true) fr rfl rfl (by first | decide | simp) (x_assign rfl (fr.ev rfl)) ?_
        clear fr a; intro a fr
        refine wpList_nil ?_
        refine fx_next ?_
        refine wp_seq ?_
        refine wp_seq ?_
        refine wp_region_lit ?_  -- region 20
        refine fx_val (v := .int .i64 0) fr rfl rfl (by first | decide | simp) (x_move rfl (fr.ev rfl)) ?_
        clear fr a; intro a fr
        refine fx_call fr rfl rfl (by first | decide | simp) (x_call (vs := [.int .i64 0]) rfl rfl ⟨(fr.ev rfl), trivial⟩ Try.func20 nm20 rfl) (num_c 0 _) ?_
        clear fr a
        rintro v w9 ⟨rfl, hw9⟩ a fr
        obtain rfl := hw9.symm
        refine fx_val (v := .int .i64 0) fr rfl rfl (by first | decide | simp) (x_move rfl (fr.ev rfl)) ?_
        clear fr a; intro a fr
        refine fx_call fr rfl rfl (by first | decide | simp) (x_call (vs := [.int .i64 0]) rfl rfl ⟨(fr.ev rfl), trivial⟩ Try.func20 nm20 rfl) (num_c 0 _) ?_
        clear fr a
        rintro v w9 ⟨rfl, hw9⟩ a fr
        obtain rfl := hw9.symm
        refine fx_val (v := .int .i64 0) fr rfl rfl (by first | decide | simp) (x_add rfl (fr.ev rfl) (fr.ev rfl) rfl) ?_
        clear fr a; intro a fr
        refine fx_val (v := .bool false) fr rfl rfl (by first | decide | simp) (x_neq rfl (fr.ev rfl) rfl rfl) ?_
        clear fr a; intro a fr
        refine fx_val (v := .bool false) fr rfl rfl (by first | decide | simp) (x_move rfl (fr.ev rfl)) ?_
        clear fr a; intro a fr
        refine fx_val (v := .agg (lnE.arr q.ln)) fr (fr.want rfl rfl rfl) rfl (by first | decide | simp) (x_loadE (E := lnE) ag39 rfl rfl (fr.ev rfl) (B165.rangeE lnE)) ?_
        clear fr a; intro a fr
        refine fx_val (v := .pointer (some ⟨b1, 1, none⟩)) fr (fr.want rfl rfl rfl) rfl (by first | decide | simp) (x_fieldAddr fo57_1 rfl (fr.ev rfl) rfl) ?_
        clear fr a; intro a fr
        refine fx_val (v := .agg (lnE.arr q.ln)) fr (fr.want rfl rfl rfl) rfl (by first | decide | simp) (x_loadE (E := lnE) ag39 rfl rfl (fr.ev rfl) (B4.part (act_lnA _))) ?_
        clear fr a; intro a fr
        refine fx_val (v := .bool false) fr (fr.want rfl rfl rfl) rfl (by first | decide | simp) (x_neE lnER rfl rfl (fr.ev rfl) (fr.ev rfl) (by simp)) ?_
        clear fr a; intro a fr
        refine fx_val (v := .bool false) fr rfl rfl (by first | decide | simp) (x_pick_f rfl (fr.ev rfl) (fr.ev rfl)) ?_
        clear fr a; intro a fr
        refine fx_val (v := .bool false) fr rfl rfl (by first | decide | simp) (x_move rfl (fr.ev rfl)) ?_
        clear fr a; intro a fr
        refine fx_val (v := .bool true) fr (fr.want rfl rfl rfl) rfl (by first | decide | simp) (x_move rfl (fr.ev rfl)) ?_
        clear fr a; intro a fr
        refine fx_val (v := .bool false) fr (fr.want rfl rfl rfl) rfl (by first | decide | simp) (x_not rfl (fr.ev rfl) rfl) ?_
        clear fr a; intro a fr
        refine fx_val (v := .bool false) fr rfl rfl (by first | decide | simp) (x_pick_f rfl (fr.ev rfl) (fr.ev rfl)) ?_
        clear fr a; intro a fr
        refine wpList_nil ?_
        refine fx_next ?_
        refine fx_cond_f fr rfl ?_
        refine wp_skip ?_
        refine fx_next ?_
        refine wp_seq ?_
        refine wp_seq ?_
        refine wp_region_lit ?_  -- region 22
        refine fx_val (v := .int .i64 0) fr rfl rfl (by first | decide | simp) (x_assign rfl rfl) ?_
        clear fr a; intro a fr
        refine wpList_nil ?_
        refine fx_next ?_
        refine wp_block ?_
        refine fx_loop (fun nM a wL => ∃ j : Nat, nM = (allL n L).length - j ∧ Fr (196, []) [(8, .pointer (some ⟨b1, 0, none⟩)), (10, .bool false), (11, .pointer (some ⟨b20, 0, none⟩)), (14, .slice A43 ((allL n L).length) cap44), (16, .pointer (some ⟨b128, 0, none⟩)), (21, .int .i64 ((j : Nat) : Int))] a ∧ Only (fun _ => False) w wL ∧ View actE wL P cp la ∧ Blk wL b1 57 (actE.arr q) ∧ Own lnE wL A43 cap44 (allL n L) ∧ Blk wL b139 39 (lnE.arr g) ∧ Blk wL b128 39 (lnE.arr g) ∧ LinesAt wL Fp155 b20 n ways (putL n ways (dropL L g.num) q.ln) ∧ Blk wL b162 39 (lnE.arr q.ln) ∧ j ≤ (allL n L).length) (n0 := _) ⟨0, rfl, fr.sub ⟨rfl, rfl, rfl, rfl, rfl, rfl, trivial⟩, hF, hV, B4, O45, B142, B131, H156, B165, by omega⟩ ?_
        rintro n174 a w173 ⟨j, rfl, fr, hF, hV, B4, O45, B142, B131, H156, B165, hj⟩
        refine wp_seq ?_
        refine wp_seq ?_
        refine wp_region_lit ?_  -- region 23
        refine fx_val (v := .int .i64 ((j : Nat) : Int)) fr rfl rfl (by first | decide | simp) (x_move rfl (fr.ev rfl)) ?_
        clear fr a; intro a fr
        refine fx_val (v := .slice A43 ((allL n L).length) cap44) fr rfl rfl (by first | decide | simp) (x_move rfl (fr.ev rfl)) ?_
        clear fr a; intro a fr
        refine fx_val (v := .int .i64 (((allL n L).length : Nat) : Int)) fr rfl rfl (by first | decide | simp) (x_len Try.underlying26 rfl (fr.ev rfl)) ?_
        clear fr a; intro a fr
        refine fx_val (v := .bool (decide (((j : Nat) : Int) < (((allL n L).length : Nat) : Int)))) fr rfl rfl (by first | decide | simp) (x_lss rfl (fr.ev rfl) (fr.ev rfl) rfl) ?_
        clear fr a; intro a fr
        refine wpList_nil ?_
        refine fx_next ?_
        refine fx_cond fr rfl (fun hc175 => ?_) (fun hc175 => ?_)
        · skip
          have hc175 := of_decide_eq_true hc175
          refine wp_skip ?_
          refine fx_next ?_
          refine wp_seq ?_
          refine wp_block ?_
          refine wp_seq ?_
          have hwm : ((allL n L).getD j ln0) ∈ L := mem_allL (getD_mem (by omega))
          have hwn := ((allL n L).getD j ln0).hn
          rcases Decidable.em (((allL n L).getD j ln0).num = q.ln.num) with h1 | h1
          · skip
            refine wp_region_lit ?_  -- region 25
            refine fx_val (v := .pointer (some ⟨b20, 0, none⟩)) fr rfl rfl (by first | decide | simp) (x_move rfl (fr.ev rfl)) ?_
            clear fr a; intro a fr
            refine fx_val (v := .slice A43 ((allL n L).length) cap44) fr rfl rfl (by first | decide | simp) (x_move rfl (fr.ev rfl)) ?_
            clear fr a; intro a fr
            refine fx_val (v := .int .i64 ((j : Nat) : Int)) fr rfl rfl (by first | decide | simp) (x_move rfl (fr.ev rfl)) ?_
            clear fr a; intro a fr
            obtain ⟨g176, o177, hA178⟩ := (O45.view).some_ (by omega)
            refine fx_val (v := .pointer (some ⟨g176, o177 + j * 18, none⟩)) fr rfl rfl (by first | decide | simp) (x_indexV Try.underlying26 sz39 rfl (fr.ev rfl) hA178 (fr.ev rfl) (by omega) rfl) ?_
            clear fr a; intro a fr
            refine fx_val (v := .pointer (some ⟨g176, o177 + j * 18, none⟩)) fr rfl rfl (by first | decide | simp) (x_fieldAddr fo39_0 rfl (fr.ev rfl) rfl) ?_
            clear fr a; intro a fr
            refine fx_val (v := .int .u32 (((allL n L).getD j ln0).num)) fr rfl rfl (by first | decide | simp) (x_load1 pl33 rfl (fr.ev rfl) (range_cell ((O45.view).elem hA178 j ln0 (by omega)) 0 rfl rfl)) ?_
            clear fr a; intro a fr
            refine fx_call fr rfl rfl (by first | decide | simp) (x_call (vs := [.pointer (some ⟨b20, 0, none⟩), .int .u32 (((allL n L).getD j ln0).num)]) rfl rfl ⟨(fr.ev rfl), (fr.ev rfl), trivial⟩ Try.func14 nm14 rfl) (find_c (((allL n L).getD j ln0).num) (by omega) H156) ?_
            clear fr a
            rintro v w179 ⟨rfl, hN180⟩ a fr
            replace hV := hV.new hN180
            replace B4 := B4.new hN180
            replace O45 := O45.new hN180
            replace B142 := B142.new hN180
            replace B131 := B131.new hN180
            replace H156 := H156.new hN180
            replace B165 := B165.new hN180
            replace hF := hF.trNew hN180
            refine fx_val (v := .tuple #[.agg (lnE.arr ((getN (putL n ways (dropL L g.num) q.ln) (((allL n L).getD j ln0).num)).getD ln0)), .bool ((getN (putL n ways (dropL L g.num) q.ln) (((allL n L).getD j ln0).num)).isSome)]) fr rfl rfl (by first | decide | simp) (x_move rfl (fr.ev rfl)) ?_
            clear fr a; intro a fr
            refine fx_val (v := .agg (lnE.arr ((getN (putL n ways (dropL L g.num) q.ln) (((allL n L).getD j ln0).num)).getD ln0))) fr rfl rfl (by first | decide | simp) (x_extract rfl (fr.ev rfl) rfl) ?_
            clear fr a; intro a fr
            refine fx_val (v := .bool ((getN (putL n ways (dropL L g.num) q.ln) (((allL n L).getD j ln0).num)).isSome)) fr rfl rfl (by first | decide | simp) (x_extract rfl (fr.ev rfl) rfl) ?_
            clear fr a; intro a fr
            refine fx_new fr rfl rfl (by first | decide | simp) (x_alloc (z := .agg (#[.int .u32 0, .int .i64 0, .int .u8 0, .int .u8 0, .int .u8 0, .int .u8 0, .int .u8 0, .int .u8 0, .int .u8 0, .int .u8 0, .int .u8 0, .int .u8 0, .int .u8 0, .int .u8 0, .int .u8 0, .int .u8 0, .int .u8 0, .int .u8 0])) (cs := lnE.arr ln0) rfl (by kernel_rfl) rfl) ?_
            clear fr a
            intro b181 w182 hN183 B184 hb185 a fr
            have ap_P_b181 : Apart P b181 := hV.apart hb185
            have ne_b1_b181 : NE b1 b181 := NE.mk (Nat.lt_of_lt_of_le B4.lt hb185)
            have ap_A43_b181 : Apart A43 b181 := O45.apart hb185
            have ne_b139_b181 : NE b139 b181 := NE.mk (Nat.lt_of_lt_of_le B142.lt hb185)
            have ne_b128_b181 : NE b128 b181 := NE.mk (Nat.lt_of_lt_of_le B131.lt hb185)
            have ap_Fp155_b181 : ¬ Fp155 b181 := H156.apart hb185
            have ne_b162_b181 : NE b162 b181 := NE.mk (Nat.lt_of_lt_of_le B165.lt hb185)
            have g_b181 := Nat.le_trans hF.size hb185
            replace hV := hV.new hN183
            replace B4 := B4.new hN183
            replace O45 := O45.new hN183
            replace B142 := B142.new hN183
            replace B131 := B131.new hN183
            replace H156 := H156.new hN183
            replace B165 := B165.new hN183
            replace hF := hF.trNew hN183
            refine fx_storeS sz39 rfl rfl rfl (fr.ev rfl) (fr.ev rfl) (lnE.all _) B184 (lnE.size _) (lnE.size _) fun w186 hO187 hBq => ?_
            replace hV := hV.only hO187 (Apart.ne1 ap_P_b181)
            replace B4 := B4.only hO187 (by first | exact ne_b1_b181 | exact ne_b181_b1.symm | (show ¬ b1 = b181; omega))
            replace O45 := O45.only hO187 (Apart.ne1 ap_A43_b181)
            replace B142 := B142.only hO187 (by first | exact ne_b139_b181 | exact ne_b181_b139.symm | (show ¬ b139 = b181; omega))
            replace B131 := B131.only hO187 (by first | exact ne_b128_b181 | exact ne_b181_b128.symm | (show ¬ b128 = b181; omega))
            replace H156 := H156.only hO187 (ne1P ap_Fp155_b181)
            replace B165 := B165.only hO187 (by first | exact ne_b162_b181 | exact ne_b181_b162.symm | (show ¬ b162 = b181; omega))
            replace hF := hF.loc hO187 (.inr g_b181)
            replace B184 := hBq
            clear hBq
            refine fx_val (v := .bool ((getN (putL n ways (dropL L g.num) q.ln) (((allL n L).getD j ln0).num)).isSome)) fr rfl rfl (by first | decide | simp) (x_assign rfl (fr.ev rfl)) ?_
            clear fr a; intro a fr
            refine wpList_nil ?_
            refine fx_next ?_
            refine wp_seq ?_
            refine fx_held (n := 29) (fun w => View actE w P cp la ∧ Blk w b1 57 (actE.arr q) ∧ Own lnE w A43 cap44 (allL n L) ∧ Blk w b139 39 (lnE.arr g) ∧ Blk w b128 39 (lnE.arr g) ∧ Blk w b162 39 (lnE.arr q.ln) ∧ Blk w b181 39 (lnE.arr ((getN (putL n ways (dropL L g.num) q.ln) (((allL n L).getD j ln0).num)).getD ln0)) ∧ True) (by kernel_rfl) rfl ?_  -- region 26
            intro w188 hN189
            replace hV := hV.new hN189
            replace B4 := B4.new hN189
            replace O45 := O45.new hN189
            replace B142 := B142.new hN189
            replace B131 := B131.new hN189
            replace H156 := H156.new hN189
            replace B165 := B165.new hN189
            replace B184 := B184.new hN189
            replace hF := hF.trNew hN189
            refine fx_take (i := 0) (v := .slice A43 ((allL n L).length) cap44) fr rfl (by kernel_rfl) rfl rfl (by first | decide | simp) (fun _ _ _ h => h) (fun _ ⟨hV, B4, O45, B142, B131, B165, B184, _⟩ => x_move rfl (fr.ev rfl)) ⟨hV, B4, O45, B142, B131, B165, B184, trivial⟩ ?_
            clear fr a; intro a fr
            refine fx_take (i := 1) (v := .int .i64 ((j : Nat) : Int)) fr rfl (by kernel_rfl) rfl rfl (by first | decide | simp) (fun _ _ _ h => h) (fun _ ⟨hV, B4, O45, B142, B131, B165, B184, _⟩ => x_move rfl (fr.ev rfl)) ⟨hV, B4, O45, B142, B131, B165, B184, trivial⟩ ?_
            clear fr a; intro a fr
            refine fx_take (i := 2) (v := .pointer (some ⟨g176, o177 + j * 18, none⟩)) fr rfl (by kernel_rfl) rfl rfl (by first | decide | simp) (fun _ _ _ h => h) (fun _ ⟨hV, B4, O45, B142, B131, B165, B184, _⟩ => x_indexV Try.underlying26 sz39 rfl (fr.ev rfl) hA178 (fr.ev rfl) (by omega) rfl) ⟨hV, B4, O45, B142, B131, B165, B184, trivial⟩ ?_
            clear fr a; intro a fr
            refine fx_take (i := 3) (v := .pointer (some ⟨g176, o177 + j * 18, none⟩)) fr rfl (by kernel_rfl) rfl rfl (by first | decide | simp) (fun _ _ _ h => h) (fun _ ⟨hV, B4, O45, B142, B131, B165, B184, _⟩ => x_fieldAddr fo39_0 rfl (fr.ev rfl) rfl) ⟨hV, B4, O45, B142, B131, B165, B184, trivial⟩ ?_
            clear fr a; intro a fr
            refine fx_take (i := 4) (v := .int .u32 (((allL n L).getD j ln0).num)) fr rfl (by kernel_rfl) rfl rfl (by first | decide | simp) (fun _ _ _ h => h) (fun _ ⟨hV, B4, O45, B142, B131, B165, B184, _⟩ => x_load1 pl33 rfl (fr.ev rfl) (range_cell ((O45.view).elem hA178 j ln0 (by omega)) 0 rfl rfl)) ⟨hV, B4, O45, B142, B131, B165, B184, trivial⟩ ?_
            clear fr a; intro a fr
            refine fx_take (i := 5) (v := .pointer (some ⟨b1, 1, none⟩)) fr rfl (by kernel_rfl) rfl rfl (by first | decide | simp) (fun _ _ _ h => h) (fun _ ⟨hV, B4, O45, B142, B131, B165, B184, _⟩ => x_fieldAddr fo57_1 rfl (fr.ev rfl) rfl) ⟨hV, B4, O45, B142, B131, B165, B184, trivial⟩ ?_
            clear fr a; intro a fr
            refine fx_take (i := 6) (v := .pointer (some ⟨b1, 1, none⟩)) fr rfl (by kernel_rfl) rfl rfl (by first | decide | simp) (fun _ _ _ h => h) (fun _ ⟨hV, B4, O45, B142, B131, B165, B184, _⟩ => x_fieldAddr fo39_0 rfl (fr.ev rfl) rfl) ⟨hV, B4, O45, B142, B131, B165, B184, trivial⟩ ?_
            clear fr a; intro a fr
            refine fx_take (i := 7) (v := .int .u32 q.ln.num) fr rfl (by kernel_rfl) rfl rfl (by first | decide | simp) (fun _ _ _ h => h) (fun _ ⟨hV, B4, O45, B142, B131, B165, B184, _⟩ => x_load1 pl33 rfl (fr.ev rfl) (B4.cell 1 rfl)) ⟨hV, B4, O45, B142, B131, B165, B184, trivial⟩ ?_
            clear fr a; intro a fr
            refine fx_take (i := 8) (v := .bool false) fr rfl (by kernel_rfl) rfl rfl (by first | decide | simp) (fun _ _ _ h => h) (fun _ ⟨hV, B4, O45, B142, B131, B165, B184, _⟩ => x_neq rfl (fr.ev rfl) (fr.ev rfl) (by first | (exact decide_eq_false (fun hn => hn h1)) | simp [h1])) ⟨hV, B4, O45, B142, B131, B165, B184, trivial⟩ ?_
            clear fr a; intro a fr
            refine fx_take (i := 9) (v := .bool false) fr rfl (by kernel_rfl) rfl rfl (by first | decide | simp) (fun _ _ _ h => h) (fun _ ⟨hV, B4, O45, B142, B131, B165, B184, _⟩ => x_move rfl (fr.ev rfl)) ⟨hV, B4, O45, B142, B131, B165, B184, trivial⟩ ?_
            clear fr a; intro a fr
            refine fx_takeskip (i := 10) fr rfl (by kernel_rfl) (fr.unwant rfl rfl rfl (by decide)) rfl (by first | decide | simp) (fun _ _ _ h => h) ⟨hV, B4, O45, B142, B131, B165, B184, trivial⟩ ?_
            clear fr a; intro a fr
            refine fx_takeskip (i := 11) fr rfl (by kernel_rfl) (fr.unwant rfl rfl rfl (by decide)) rfl (by first | decide | simp) (fun _ _ _ h => h) ⟨hV, B4, O45, B142, B131, B165, B184, trivial⟩ ?_
            clear fr a; intro a fr
            refine fx_takeskip (i := 12) fr rfl (by kernel_rfl) (fr.unwant rfl rfl rfl (by decide)) rfl (by first | decide | simp) (fun _ _ _ h => h) ⟨hV, B4, O45, B142, B131, B165, B184, trivial⟩ ?_
            clear fr a; intro a fr
            refine fx_takeskip (i := 13) fr rfl (by kernel_rfl) (fr.unwant rfl rfl rfl (by decide)) rfl (by first | decide | simp) (fun _ _ _ h => h) ⟨hV, B4, O45, B142, B131, B165, B184, trivial⟩ ?_
            clear fr a; intro a fr
            refine fx_takeskip (i := 14) fr rfl (by kernel_rfl) (fr.unwant rfl rfl rfl (by decide)) rfl (by first | decide | simp) (fun _ _ _ h => h) ⟨hV, B4, O45, B142, B131, B165, B184, trivial⟩ ?_
            clear fr a; intro a fr
            refine fx_takeskip (i := 15) fr rfl (by kernel_rfl) (fr.unwant rfl rfl rfl (by decide)) rfl (by first | decide | simp) (fun _ _ _ h => h) ⟨hV, B4, O45, B142, B131, B165, B184, trivial⟩ ?_
            clear fr a; intro a fr
            refine fx_take (i := 16) (v := .bool false) fr rfl (by kernel_rfl) rfl rfl (by first | decide | simp) (fun _ _ _ h => h) (fun _ ⟨hV, B4, O45, B142, B131, B165, B184, _⟩ => x_pick_f rfl (fr.ev rfl) rfl) ⟨hV, B4, O45, B142, B131, B165, B184, trivial⟩ ?_
            clear fr a; intro a fr
            refine fx_take (i := 17) (v := .bool false) fr rfl (by kernel_rfl) rfl rfl (by first | decide | simp) (fun _ _ _ h => h) (fun _ ⟨hV, B4, O45, B142, B131, B165, B184, _⟩ => x_move rfl (fr.ev rfl)) ⟨hV, B4, O45, B142, B131, B165, B184, trivial⟩ ?_
            clear fr a; intro a fr
            refine fx_takeskip (i := 18) fr rfl (by kernel_rfl) (fr.unwant rfl rfl rfl (by decide)) rfl (by first | decide | simp) (fun _ _ _ h => h) ⟨hV, B4, O45, B142, B131, B165, B184, trivial⟩ ?_
            clear fr a; intro a fr
            refine fx_takeskip (i := 19) fr rfl (by kernel_rfl) (fr.unwant rfl rfl rfl (by decide)) rfl (by first | decide | simp) (fun _ _ _ h => h) ⟨hV, B4, O45, B142, B131, B165, B184, trivial⟩ ?_
            clear fr a; intro a fr
            refine fx_takeskip (i := 20) fr rfl (by kernel_rfl) (fr.unwant rfl rfl rfl (by decide)) rfl (by first | decide | simp) (fun _ _ _ h => h) ⟨hV, B4, O45, B142, B131, B165, B184, trivial⟩ ?_
            clear fr a; intro a fr
            refine fx_takeskip (i := 21) fr rfl (by kernel_rfl) (fr.unwant rfl rfl rfl (by decide)) rfl (by first | decide | simp) (fun _ _ _ h => h) ⟨hV, B4, O45, B142, B131, B165, B184, trivial⟩ ?_
            clear fr a; intro a fr
            refine fx_takeskip (i := 22) fr rfl (by kernel_rfl) (fr.unwant rfl rfl rfl (by decide)) rfl (by first | decide | simp) (fun _ _ _ h => h) ⟨hV, B4, O45, B142, B131, B165, B184, trivial⟩ ?_
            clear fr a; intro a fr
            refine fx_takeskip (i := 23) fr rfl (by kernel_rfl) (fr.unwant rfl rfl rfl (by decide)) rfl (by first | decide | simp) (fun _ _ _ h => h) ⟨hV, B4, O45, B142, B131, B165, B184, trivial⟩ ?_
            clear fr a; intro a fr
            refine fx_takeskip (i := 24) fr rfl (by kernel_rfl) (fr.unwant rfl rfl rfl (by decide)) rfl (by first | decide | simp) (fun _ _ _ h => h) ⟨hV, B4, O45, B142, B131, B165, B184, trivial⟩ ?_
            clear fr a; intro a fr
            refine fx_takeskip (i := 25) fr rfl (by kernel_rfl) (fr.unwant_u rfl rfl rfl) rfl (by first | decide | simp) (fun _ _ _ h => h) ⟨hV, B4, O45, B142, B131, B165, B184, trivial⟩ ?_
            clear fr a; intro a fr
            refine fx_takeskip (i := 26) fr rfl (by kernel_rfl) (fr.unwant_u rfl rfl rfl) rfl (by first | decide | simp) (fun _ _ _ h => h) ⟨hV, B4, O45, B142, B131, B165, B184, trivial⟩ ?_
            clear fr a; intro a fr
            refine fx_takeskip (i := 27) fr rfl (by kernel_rfl) (fr.unwant rfl rfl rfl (by decide)) rfl (by first | decide | simp) (fun _ _ _ h => h) ⟨hV, B4, O45, B142, B131, B165, B184, trivial⟩ ?_
            clear fr a; intro a fr
            refine fx_take (i := 28) (v := .bool false) fr rfl (by kernel_rfl) rfl rfl (by first | decide | simp) (fun _ _ _ h => h) (fun _ ⟨hV, B4, O45, B142, B131, B165, B184, _⟩ => x_pick_f rfl (fr.ev rfl) rfl) ⟨hV, B4, O45, B142, B131, B165, B184, trivial⟩ ?_
            clear fr a; intro a fr
            refine fx_hdone (by kernel_rfl) ?_
            refine fx_next ?_
            refine fx_cond_f fr rfl ?_
            refine wp_skip ?_
            refine fx_blk ?_
            refine fx_next ?_
            refine wp_region_lit ?_  -- region 24
            refine fx_val (v := .int .i64 ((j : Nat) : Int)) fr rfl rfl (by first | decide | simp) (x_move rfl (fr.ev rfl)) ?_
            clear fr a; intro a fr
            refine fx_val (v := .int .i64 ((j + 1 : Nat) : Int)) fr rfl rfl (by first | decide | simp) (x_add rfl (fr.ev rfl) rfl (i64w (r := ((j + 1 : Nat) : Int)) (by omega) (by omega))) ?_
            clear fr a; intro a fr
            refine fx_val (v := .int .i64 ((j + 1 : Nat) : Int)) fr rfl rfl (by first | decide | simp) (x_assign rfl (fr.ev rfl)) ?_
            clear fr a; intro a fr
            refine wpList_nil ?_
            refine fx_next ?_
            exact ⟨_, by omega, (j + 1), rfl, fr.sub ⟨rfl, rfl, rfl, rfl, rfl, rfl, trivial⟩, hF, hV, B4, O45, B142, B131, H156, B165, by omega⟩
          · skip
            rcases Decidable.em (((allL n L).getD j ln0) = g) with h2 | h2
            · skip
              refine wp_region_lit ?_  -- region 25
              refine fx_val (v := .pointer (some ⟨b20, 0, none⟩)) fr rfl rfl (by first | decide | simp) (x_move rfl (fr.ev rfl)) ?_
              clear fr a; intro a fr
              refine fx_val (v := .slice A43 ((allL n L).length) cap44) fr rfl rfl (by first | decide | simp) (x_move rfl (fr.ev rfl)) ?_
              clear fr a; intro a fr
              refine fx_val (v := .int .i64 ((j : Nat) : Int)) fr rfl rfl (by first | decide | simp) (x_move rfl (fr.ev rfl)) ?_
              clear fr a; intro a fr
              obtain ⟨g190, o191, hA192⟩ := (O45.view).some_ (by omega)
              refine fx_val (v := .pointer (some ⟨g190, o191 + j * 18, none⟩)) fr rfl rfl (by first | decide | simp) (x_indexV Try.underlying26 sz39 rfl (fr.ev rfl) hA192 (fr.ev rfl) (by omega) rfl) ?_
              clear fr a; intro a fr
              refine fx_val (v := .pointer (some ⟨g190, o191 + j * 18, none⟩)) fr rfl rfl (by first | decide | simp) (x_fieldAddr fo39_0 rfl (fr.ev rfl) rfl) ?_
              clear fr a; intro a fr
              refine fx_val (v := .int .u32 (((allL n L).getD j ln0).num)) fr rfl rfl (by first | decide | simp) (x_load1 pl33 rfl (fr.ev rfl) (range_cell ((O45.view).elem hA192 j ln0 (by omega)) 0 rfl rfl)) ?_
              clear fr a; intro a fr
              refine fx_call fr rfl rfl (by first | decide | simp) (x_call (vs := [.pointer (some ⟨b20, 0, none⟩), .int .u32 (((allL n L).getD j ln0).num)]) rfl rfl ⟨(fr.ev rfl), (fr.ev rfl), trivial⟩ Try.func14 nm14 rfl) (find_c (((allL n L).getD j ln0).num) (by omega) H156) ?_
              clear fr a
              rintro v w193 ⟨rfl, hN194⟩ a fr
              replace hV := hV.new hN194
              replace B4 := B4.new hN194
              replace O45 := O45.new hN194
              replace B142 := B142.new hN194
              replace B131 := B131.new hN194
              replace H156 := H156.new hN194
              replace B165 := B165.new hN194
              replace hF := hF.trNew hN194
              refine fx_val (v := .tuple #[.agg (lnE.arr ((getN (putL n ways (dropL L g.num) q.ln) (((allL n L).getD j ln0).num)).getD ln0)), .bool ((getN (putL n ways (dropL L g.num) q.ln) (((allL n L).getD j ln0).num)).isSome)]) fr rfl rfl (by first | decide | simp) (x_move rfl (fr.ev rfl)) ?_
              clear fr a; intro a fr
              refine fx_val (v := .agg (lnE.arr ((getN (putL n ways (dropL L g.num) q.ln) (((allL n L).getD j ln0).num)).getD ln0))) fr rfl rfl (by first | decide | simp) (x_extract rfl (fr.ev rfl) rfl) ?_
              clear fr a; intro a fr
              refine fx_val (v := .bool ((getN (putL n ways (dropL L g.num) q.ln) (((allL n L).getD j ln0).num)).isSome)) fr rfl rfl (by first | decide | simp) (x_extract rfl (fr.ev rfl) rfl) ?_
              clear fr a; intro a fr
              refine fx_new fr rfl rfl (by first | decide | simp) (x_alloc (z := .agg (#[.int .u32 0, .int .i64 0, .int .u8 0, .int .u8 0, .int .u8 0, .int .u8 0, .int .u8 0, .int .u8 0, .int .u8 0, .int .u8 0, .int .u8 0, .int .u8 0, .int .u8 0, .int .u8 0, .int .u8 0, .int .u8 0, .int .u8 0, .int .u8 0])) (cs := lnE.arr ln0) rfl (by kernel_rfl) rfl) ?_
              clear fr a
              intro b195 w196 hN197 B198 hb199 a fr
              have ap_P_b195 : Apart P b195 := hV.apart hb199
              have ne_b1_b195 : NE b1 b195 := NE.mk (Nat.lt_of_lt_of_le B4.lt hb199)
              have ap_A43_b195 : Apart A43 b195 := O45.apart hb199
              have ne_b139_b195 : NE b139 b195 := NE.mk (Nat.lt_of_lt_of_le B142.lt hb199)
              have ne_b128_b195 : NE b128 b195 := NE.mk (Nat.lt_of_lt_of_le B131.lt hb199)
              have ap_Fp155_b195 : ¬ Fp155 b195 := H156.apart hb199
              have ne_b162_b195 : NE b162 b195 := NE.mk (Nat.lt_of_lt_of_le B165.lt hb199)
              have g_b195 := Nat.le_trans hF.size hb199
              replace hV := hV.new hN197
              replace B4 := B4.new hN197
              replace O45 := O45.new hN197
              replace B142 := B142.new hN197
              replace B131 := B131.new hN197
              replace H156 := H156.new hN197
              replace B165 := B165.new hN197
              replace hF := hF.trNew hN197
              refine fx_storeS sz39 rfl rfl rfl (fr.ev rfl) (fr.ev rfl) (lnE.all _) B198 (lnE.size _) (lnE.size _) fun w200 hO201 hBq => ?_
              replace hV := hV.only hO201 (Apart.ne1 ap_P_b195)
              replace B4 := B4.only hO201 (by first | exact ne_b1_b195 | exact ne_b195_b1.symm | (show ¬ b1 = b195; omega))
              replace O45 := O45.only hO201 (Apart.ne1 ap_A43_b195)
              replace B142 := B142.only hO201 (by first | exact ne_b139_b195 | exact ne_b195_b139.symm | (show ¬ b139 = b195; omega))
              replace B131 := B131.only hO201 (by first | exact ne_b128_b195 | exact ne_b195_b128.symm | (show ¬ b128 = b195; omega))
              replace H156 := H156.only hO201 (ne1P ap_Fp155_b195)
              replace B165 := B165.only hO201 (by first | exact ne_b162_b195 | exact ne_b195_b162.symm | (show ¬ b162 = b195; omega))
              replace hF := hF.loc hO201 (.inr g_b195)
              replace B198 := hBq
              clear hBq
              refine fx_val (v := .bool ((getN (putL n ways (dropL L g.num) q.ln) (((allL n L).getD j ln0).num)).isSome)) fr rfl rfl (by first | decide | simp) (x_assign rfl (fr.ev rfl)) ?_
              clear fr a; intro a fr
              refine wpList_nil ?_
              refine fx_next ?_
              refine wp_seq ?_
              refine fx_held (n := 29) (fun w => View actE w P cp la ∧ Blk w b1 57 (actE.arr q) ∧ Own lnE w A43 cap44 (allL n L) ∧ Blk w b139 39 (lnE.arr g) ∧ Blk w b128 39 (lnE.arr g) ∧ Blk w b162 39 (lnE.arr q.ln) ∧ Blk w b195 39 (lnE.arr ((getN (putL n ways (dropL L g.num) q.ln) (((allL n L).getD j ln0).num)).getD ln0)) ∧ True) (by kernel_rfl) rfl ?_  -- region 26
              intro w202 hN203
              replace hV := hV.new hN203
              replace B4 := B4.new hN203
              replace O45 := O45.new hN203
              replace B142 := B142.new hN203
              replace B131 := B131.new hN203
              replace H156 := H156.new hN203
              replace B165 := B165.new hN203
              replace B198 := B198.new hN203
              replace hF := hF.trNew hN203
              refine fx_take (i := 0) (v := .slice A43 ((allL n L).length) cap44) fr rfl (by kernel_rfl) rfl rfl (by first | decide | simp) (fun _ _ _ h => h) (fun _ ⟨hV, B4, O45, B142, B131, B165, B198, _⟩ => x_move rfl (fr.ev rfl)) ⟨hV, B4, O45, B142, B131, B165, B198, trivial⟩ ?_
              clear fr a; intro a fr
              refine fx_take (i := 1) (v := .int .i64 ((j : Nat) : Int)) fr rfl (by kernel_rfl) rfl rfl (by first | decide | simp) (fun _ _ _ h => h) (fun _ ⟨hV, B4, O45, B142, B131, B165, B198, _⟩ => x_move rfl (fr.ev rfl)) ⟨hV, B4, O45, B142, B131, B165, B198, trivial⟩ ?_
              clear fr a; intro a fr
              refine fx_take (i := 2) (v := .pointer (some ⟨g190, o191 + j * 18, none⟩)) fr rfl (by kernel_rfl) rfl rfl (by first | decide | simp) (fun _ _ _ h => h) (fun _ ⟨hV, B4, O45, B142, B131, B165, B198, _⟩ => x_indexV Try.underlying26 sz39 rfl (fr.ev rfl) hA192 (fr.ev rfl) (by omega) rfl) ⟨hV, B4, O45, B142, B131, B165, B198, trivial⟩ ?_
              clear fr a; intro a fr
              refine fx_take (i := 3) (v := .pointer (some ⟨g190, o191 + j * 18, none⟩)) fr rfl (by kernel_rfl) rfl rfl (by first | decide | simp) (fun _ _ _ h => h) (fun _ ⟨hV, B4, O45, B142, B131, B165, B198, _⟩ => x_fieldAddr fo39_0 rfl (fr.ev rfl) rfl) ⟨hV, B4, O45, B142, B131, B165, B198, trivial⟩ ?_
              clear fr a; intro a fr
              refine fx_take (i := 4) (v := .int .u32 (((allL n L).getD j ln0).num)) fr rfl (by kernel_rfl) rfl rfl (by first | decide | simp) (fun _ _ _ h => h) (fun _ ⟨hV, B4, O45, B142, B131, B165, B198, _⟩ => x_load1 pl33 rfl (fr.ev rfl) (range_cell ((O45.view).elem hA192 j ln0 (by omega)) 0 rfl rfl)) ⟨hV, B4, O45, B142, B131, B165, B198, trivial⟩ ?_
              clear fr a; intro a fr
              refine fx_take (i := 5) (v := .pointer (some ⟨b1, 1, none⟩)) fr rfl (by kernel_rfl) rfl rfl (by first | decide | simp) (fun _ _ _ h => h) (fun _ ⟨hV, B4, O45, B142, B131, B165, B198, _⟩ => x_fieldAddr fo57_1 rfl (fr.ev rfl) rfl) ⟨hV, B4, O45, B142, B131, B165, B198, trivial⟩ ?_
              clear fr a; intro a fr
              refine fx_take (i := 6) (v := .pointer (some ⟨b1, 1, none⟩)) fr rfl (by kernel_rfl) rfl rfl (by first | decide | simp) (fun _ _ _ h => h) (fun _ ⟨hV, B4, O45, B142, B131, B165, B198, _⟩ => x_fieldAddr fo39_0 rfl (fr.ev rfl) rfl) ⟨hV, B4, O45, B142, B131, B165, B198, trivial⟩ ?_
              clear fr a; intro a fr
              refine fx_take (i := 7) (v := .int .u32 q.ln.num) fr rfl (by kernel_rfl) rfl rfl (by first | decide | simp) (fun _ _ _ h => h) (fun _ ⟨hV, B4, O45, B142, B131, B165, B198, _⟩ => x_load1 pl33 rfl (fr.ev rfl) (B4.cell 1 rfl)) ⟨hV, B4, O45, B142, B131, B165, B198, trivial⟩ ?_
              clear fr a; intro a fr
              refine fx_take (i := 8) (v := .bool true) fr rfl (by kernel_rfl) rfl rfl (by first | decide | simp) (fun _ _ _ h => h) (fun _ ⟨hV, B4, O45, B142, B131, B165, B198, _⟩ => x_neq rfl (fr.ev rfl) (fr.ev rfl) (by first | (exact decide_eq_true h1) | simp [h1])) ⟨hV, B4, O45, B142, B131, B165, B198, trivial⟩ ?_
              clear fr a; intro a fr
              refine fx_take (i := 9) (v := .bool true) fr rfl (by kernel_rfl) rfl rfl (by first | decide | simp) (fun _ _ _ h => h) (fun _ ⟨hV, B4, O45, B142, B131, B165, B198, _⟩ => x_move rfl (fr.ev rfl)) ⟨hV, B4, O45, B142, B131, B165, B198, trivial⟩ ?_
              clear fr a; intro a fr
              refine fx_take (i := 10) (v := .slice A43 ((allL n L).length) cap44) fr rfl (by kernel_rfl) (fr.want rfl rfl rfl) rfl (by first | decide | simp) (fun _ _ _ h => h) (fun _ ⟨hV, B4, O45, B142, B131, B165, B198, _⟩ => x_move rfl (fr.ev rfl)) ⟨hV, B4, O45, B142, B131, B165, B198, trivial⟩ ?_
              clear fr a; intro a fr
              refine fx_take (i := 11) (v := .int .i64 ((j : Nat) : Int)) fr rfl (by kernel_rfl) (fr.want rfl rfl rfl) rfl (by first | decide | simp) (fun _ _ _ h => h) (fun _ ⟨hV, B4, O45, B142, B131, B165, B198, _⟩ => x_move rfl (fr.ev rfl)) ⟨hV, B4, O45, B142, B131, B165, B198, trivial⟩ ?_
              clear fr a; intro a fr
              refine fx_take (i := 12) (v := .pointer (some ⟨g190, o191 + j * 18, none⟩)) fr rfl (by kernel_rfl) (fr.want rfl rfl rfl) rfl (by first | decide | simp) (fun _ _ _ h => h) (fun _ ⟨hV, B4, O45, B142, B131, B165, B198, _⟩ => x_indexV Try.underlying26 sz39 rfl (fr.ev rfl) hA192 (fr.ev rfl) (by omega) rfl) ⟨hV, B4, O45, B142, B131, B165, B198, trivial⟩ ?_
              clear fr a; intro a fr
              refine fx_take (i := 13) (v := .agg (lnE.arr ((allL n L).getD j ln0))) fr rfl (by kernel_rfl) (fr.want rfl rfl rfl) rfl (by first | decide | simp) (fun _ _ _ h => h) (fun _ ⟨hV, B4, O45, B142, B131, B165, B198, _⟩ => x_loadE (E := lnE) ag39 rfl rfl (fr.ev rfl) ((O45.view).elem hA192 j ln0 (by omega))) ⟨hV, B4, O45, B142, B131, B165, B198, trivial⟩ ?_
              clear fr a; intro a fr
              refine fx_take (i := 14) (v := .agg (lnE.arr g)) fr rfl (by kernel_rfl) (fr.want rfl rfl rfl) rfl (by first | decide | simp) (fun _ _ _ h => h) (fun _ ⟨hV, B4, O45, B142, B131, B165, B198, _⟩ => x_loadE (E := lnE) ag39 rfl rfl (fr.ev rfl) (B131.rangeE lnE)) ⟨hV, B4, O45, B142, B131, B165, B198, trivial⟩ ?_
              clear fr a; intro a fr
              refine fx_take (i := 15) (v := .bool false) fr rfl (by kernel_rfl) (fr.want rfl rfl rfl) rfl (by first | decide | simp) (fun _ _ _ h => h) (fun _ ⟨hV, B4, O45, B142, B131, B165, B198, _⟩ => x_neE lnER rfl rfl (fr.ev rfl) (fr.ev rfl) (by rw [decide_eq_true h2]; try rfl)) ⟨hV, B4, O45, B142, B131, B165, B198, trivial⟩ ?_
              clear fr a; intro a fr
              refine fx_take (i := 16) (v := .bool false) fr rfl (by kernel_rfl) rfl rfl (by first | decide | simp) (fun _ _ _ h => h) (fun _ ⟨hV, B4, O45, B142, B131, B165, B198, _⟩ => x_pick_t rfl (fr.ev rfl) (fr.ev rfl)) ⟨hV, B4, O45, B142, B131, B165, B198, trivial⟩ ?_
              clear fr a; intro a fr
              refine fx_take (i := 17) (v := .bool false) fr rfl (by kernel_rfl) rfl rfl (by first | decide | simp) (fun _ _ _ h => h) (fun _ ⟨hV, B4, O45, B142, B131, B165, B198, _⟩ => x_move rfl (fr.ev rfl)) ⟨hV, B4, O45, B142, B131, B165, B198, trivial⟩ ?_
              clear fr a; intro a fr
              refine fx_takeskip (i := 18) fr rfl (by kernel_rfl) (fr.unwant rfl rfl rfl (by decide)) rfl (by first | decide | simp) (fun _ _ _ h => h) ⟨hV, B4, O45, B142, B131, B165, B198, trivial⟩ ?_
              clear fr a; intro a fr
              refine fx_takeskip (i := 19) fr rfl (by kernel_rfl) (fr.unwant rfl rfl rfl (by decide)) rfl (by first | decide | simp) (fun _ _ _ h => h) ⟨hV, B4, O45, B142, B131, B165, B198, trivial⟩ ?_
              clear fr a; intro a fr
              refine fx_takeskip (i := 20) fr rfl (by kernel_rfl) (fr.unwant rfl rfl rfl (by decide)) rfl (by first | decide | simp) (fun _ _ _ h => h) ⟨hV, B4, O45, B142, B131, B165, B198, trivial⟩ ?_
              clear fr a; intro a fr
              refine fx_takeskip (i := 21) fr rfl (by kernel_rfl) (fr.unwant rfl rfl rfl (by decide)) rfl (by first | decide | simp) (fun _ _ _ h => h) ⟨hV, B4, O45, B142, B131, B165, B198, trivial⟩ ?_
              clear fr a; intro a fr
              refine fx_takeskip (i := 22) fr rfl (by kernel_rfl) (fr.unwant rfl rfl rfl (by decide)) rfl (by first | decide | simp) (fun _ _ _ h => h) ⟨hV, B4, O45, B142, B131, B165, B198, trivial⟩ ?_
              clear fr a; intro a fr
              refine fx_takeskip (i := 23) fr rfl (by kernel_rfl) (fr.unwant rfl rfl rfl (by decide)) rfl (by first | decide | simp) (fun _ _ _ h => h) ⟨hV, B4, O45, B142, B131, B165, B198, trivial⟩ ?_
              clear fr a; intro a fr
              refine fx_takeskip (i := 24) fr rfl (by kernel_rfl) (fr.unwant rfl rfl rfl (by decide)) rfl (by first | decide | simp) (fun _ _ _ h => h) ⟨hV, B4, O45, B142, B131, B165, B198, trivial⟩ ?_
              clear fr a; intro a fr
              refine fx_takeskip (i := 25) fr rfl (by kernel_rfl) (fr.unwant_u rfl rfl rfl) rfl (by first | decide | simp) (fun _ _ _ h => h) ⟨hV, B4, O45, B142, B131, B165, B198, trivial⟩ ?_
              clear fr a; intro a fr
              refine fx_takeskip (i := 26) fr rfl (by kernel_rfl) (fr.unwant_u rfl rfl rfl) rfl (by first | decide | simp) (fun _ _ _ h => h) ⟨hV, B4, O45, B142, B131, B165, B198, trivial⟩ ?_
              clear fr a; intro a fr
              refine fx_takeskip (i := 27) fr rfl (by kernel_rfl) (fr.unwant rfl rfl rfl (by decide)) rfl (by first | decide | simp) (fun _ _ _ h => h) ⟨hV, B4, O45, B142, B131, B165, B198, trivial⟩ ?_
              clear fr a; intro a fr
              refine fx_take (i := 28) (v := .bool false) fr rfl (by kernel_rfl) rfl rfl (by first | decide | simp) (fun _ _ _ h => h) (fun _ ⟨hV, B4, O45, B142, B131, B165, B198, _⟩ => x_pick_f rfl (fr.ev rfl) rfl) ⟨hV, B4, O45, B142, B131, B165, B198, trivial⟩ ?_
              clear fr a; intro a fr
              refine fx_hdone (by kernel_rfl) ?_
              refine fx_next ?_
              refine fx_cond_f fr rfl ?_
              refine wp_skip ?_
              refine fx_blk ?_
              refine fx_next ?_
              refine wp_region_lit ?_  -- region 24
              refine fx_val (v := .int .i64 ((j : Nat) : Int)) fr rfl rfl (by first | decide | simp) (x_move rfl (fr.ev rfl)) ?_
              clear fr a; intro a fr
              refine fx_val (v := .int .i64 ((j + 1 : Nat) : Int)) fr rfl rfl (by first | decide | simp) (x_add rfl (fr.ev rfl) rfl (i64w (r := ((j + 1 : Nat) : Int)) (by omega) (by omega))) ?_
              clear fr a; intro a fr
              refine fx_val (v := .int .i64 ((j + 1 : Nat) : Int)) fr rfl rfl (by first | decide | simp) (x_assign rfl (fr.ev rfl)) ?_
              clear fr a; intro a fr
              refine wpList_nil ?_
              refine fx_next ?_
              exact ⟨_, by omega, (j + 1), rfl, fr.sub ⟨rfl, rfl, rfl, rfl, rfl, rfl, trivial⟩, hF, hV, B4, O45, B142, B131, H156, B165, by omega⟩
            · skip
              refine wp_region_lit ?_  -- region 25
              refine fx_val (v := .pointer (some ⟨b20, 0, none⟩)) fr rfl rfl (by first | decide | simp) (x_move rfl (fr.ev rfl)) ?_
              clear fr a; intro a fr
              refine fx_val (v := .slice A43 ((allL n L).length) cap44) fr rfl rfl (by first | decide | simp) (x_move rfl (fr.ev rfl)) ?_
              clear fr a; intro a fr
              refine fx_val (v := .int .i64 ((j : Nat) : Int)) fr rfl rfl (by first | decide | simp) (x_move rfl (fr.ev rfl)) ?_
              clear fr a; intro a fr
              obtain ⟨g204, o205, hA206⟩ := (O45.view).some_ (by omega)
              refine fx_val (v := .pointer (some ⟨g204, o205 + j * 18, none⟩)) fr rfl rfl (by first | decide | simp) (x_indexV Try.underlying26 sz39 rfl (fr.ev rfl) hA206 (fr.ev rfl) (by omega) rfl) ?_
              clear fr a; intro a fr
              refine fx_val (v := .pointer (some ⟨g204, o205 + j * 18, none⟩)) fr rfl rfl (by first | decide | simp) (x_fieldAddr fo39_0 rfl (fr.ev rfl) rfl) ?_
              clear fr a; intro a fr
              refine fx_val (v := .int .u32 (((allL n L).getD j ln0).num)) fr rfl rfl (by first | decide | simp) (x_load1 pl33 rfl (fr.ev rfl) (range_cell ((O45.view).elem hA206 j ln0 (by omega)) 0 rfl rfl)) ?_
              clear fr a; intro a fr
              refine fx_call fr rfl rfl (by first | decide | simp) (x_call (vs := [.pointer (some ⟨b20, 0, none⟩), .int .u32 (((allL n L).getD j ln0).num)]) rfl rfl ⟨(fr.ev rfl), (fr.ev rfl), trivial⟩ Try.func14 nm14 rfl) (find_c (((allL n L).getD j ln0).num) (by omega) H156) ?_
              clear fr a
              rintro v w207 ⟨rfl, hN208⟩ a fr
              replace hV := hV.new hN208
              replace B4 := B4.new hN208
              replace O45 := O45.new hN208
              replace B142 := B142.new hN208
              replace B131 := B131.new hN208
              replace H156 := H156.new hN208
              replace B165 := B165.new hN208
              replace hF := hF.trNew hN208
              rw [show getN (putL n ways (dropL L g.num) q.ln) (((allL n L).getD j ln0).num) = some ((allL n L).getD j ln0) from (hkeep _ hwm h1 h2)] at fr
              simp only [Option.getD_some, Option.isSome_some] at fr
              refine fx_val (v := .tuple #[.agg (lnE.arr ((allL n L).getD j ln0)), .bool true]) fr rfl rfl (by first | decide | simp) (x_move rfl (fr.ev rfl)) ?_
              clear fr a; intro a fr
              refine fx_val (v := .agg (lnE.arr ((allL n L).getD j ln0))) fr rfl rfl (by first | decide | simp) (x_extract rfl (fr.ev rfl) rfl) ?_
              clear fr a; intro a fr
              refine fx_val (v := .bool true) fr rfl rfl (by first | decide | simp) (x_extract rfl (fr.ev rfl) rfl) ?_
              clear fr a; intro a fr
              refine fx_new fr rfl rfl (by first | decide | simp) (x_alloc (z := .agg (#[.int .u32 0, .int .i64 0, .int .u8 0, .int .u8 0, .int .u8 0, .int .u8 0, .int .u8 0, .int .u8 0, .int .u8 0, .int .u8 0, .int .u8 0, .int .u8 0, .int .u8 0, .int .u8 0, .int .u8 0, .int .u8 0, .int .u8 0, .int .u8 0])) (cs := lnE.arr ln0) rfl (by kernel_rfl) rfl) ?_
              clear fr a
              intro b209 w210 hN211 B212 hb213 a fr
              have ap_P_b209 : Apart P b209 := hV.apart hb213
              have ne_b1_b209 : NE b1 b209 := NE.mk (Nat.lt_of_lt_of_le B4.lt hb213)
              have ap_A43_b209 : Apart A43 b209 := O45.apart hb213
              have ne_b139_b209 : NE b139 b209 := NE.mk (Nat.lt_of_lt_of_le B142.lt hb213)
              have ne_b128_b209 : NE b128 b209 := NE.mk (Nat.lt_of_lt_of_le B131.lt hb213)
              have ap_Fp155_b209 : ¬ Fp155 b209 := H156.apart hb213
              have ne_b162_b209 : NE b162 b209 := NE.mk (Nat.lt_of_lt_of_le B165.lt hb213)
              have g_b209 := Nat.le_trans hF.size hb213
              replace hV := hV.new hN211
              replace B4 := B4.new hN211
              replace O45 := O45.new hN211
              replace B142 := B142.new hN211
              replace B131 := B131.new hN211
              replace H156 := H156.new hN211
              replace B165 := B165.new hN211
              replace hF := hF.trNew hN211
              refine fx_storeS sz39 rfl rfl rfl (fr.ev rfl) (fr.ev rfl) (lnE.all _) B212 (lnE.size _) (lnE.size _) fun w214 hO215 hBq => ?_
              replace hV := hV.only hO215 (Apart.ne1 ap_P_b209)
              replace B4 := B4.only hO215 (by first | exact ne_b1_b209 | exact ne_b209_b1.symm | (show ¬ b1 = b209; omega))
              replace O45 := O45.only hO215 (Apart.ne1 ap_A43_b209)
              replace B142 := B142.only hO215 (by first | exact ne_b139_b209 | exact ne_b209_b139.symm | (show ¬ b139 = b209; omega))
              replace B131 := B131.only hO215 (by first | exact ne_b128_b209 | exact ne_b209_b128.symm | (show ¬ b128 = b209; omega))
              replace H156 := H156.only hO215 (ne1P ap_Fp155_b209)
              replace B165 := B165.only hO215 (by first | exact ne_b162_b209 | exact ne_b209_b162.symm | (show ¬ b162 = b209; omega))
              replace hF := hF.loc hO215 (.inr g_b209)
              replace B212 := hBq
              clear hBq
              refine fx_val (v := .bool true) fr rfl rfl (by first | decide | simp) (x_assign rfl (fr.ev rfl)) ?_
              clear fr a; intro a fr
              refine wpList_nil ?_
              refine fx_next ?_
              refine wp_seq ?_
              refine fx_held (n := 29) (fun w => View actE w P cp la ∧ Blk w b1 57 (actE.arr q) ∧ Own lnE w A43 cap44 (allL n L) ∧ Blk w b139 39 (lnE.arr g) ∧ Blk w b128 39 (lnE.arr g) ∧ Blk w b162 39 (lnE.arr q.ln) ∧ Blk w b209 39 (lnE.arr ((allL n L).getD j ln0)) ∧ True) (by kernel_rfl) rfl ?_  -- region 26
              intro w216 hN217
              replace hV := hV.new hN217
              replace B4 := B4.new hN217
              replace O45 := O45.new hN217
              replace B142 := B142.new hN217
              replace B131 := B131.new hN217
              replace H156 := H156.new hN217
              replace B165 := B165.new hN217
              replace B212 := B212.new hN217
              replace hF := hF.trNew hN217
              refine fx_take (i := 0) (v := .slice A43 ((allL n L).length) cap44) fr rfl (by kernel_rfl) rfl rfl (by first | decide | simp) (fun _ _ _ h => h) (fun _ ⟨hV, B4, O45, B142, B131, B165, B212, _⟩ => x_move rfl (fr.ev rfl)) ⟨hV, B4, O45, B142, B131, B165, B212, trivial⟩ ?_
              clear fr a; intro a fr
              refine fx_take (i := 1) (v := .int .i64 ((j : Nat) : Int)) fr rfl (by kernel_rfl) rfl rfl (by first | decide | simp) (fun _ _ _ h => h) (fun _ ⟨hV, B4, O45, B142, B131, B165, B212, _⟩ => x_move rfl (fr.ev rfl)) ⟨hV, B4, O45, B142, B131, B165, B212, trivial⟩ ?_
              clear fr a; intro a fr
              refine fx_take (i := 2) (v := .pointer (some ⟨g204, o205 + j * 18, none⟩)) fr rfl (by kernel_rfl) rfl rfl (by first | decide | simp) (fun _ _ _ h => h) (fun _ ⟨hV, B4, O45, B142, B131, B165, B212, _⟩ => x_indexV Try.underlying26 sz39 rfl (fr.ev rfl) hA206 (fr.ev rfl) (by omega) rfl) ⟨hV, B4, O45, B142, B131, B165, B212, trivial⟩ ?_
              clear fr a; intro a fr
              refine fx_take (i := 3) (v := .pointer (some ⟨g204, o205 + j * 18, none⟩)) fr rfl (by kernel_rfl) rfl rfl (by first | decide | simp) (fun _ _ _ h => h) (fun _ ⟨hV, B4, O45, B142, B131, B165, B212, _⟩ => x_fieldAddr fo39_0 rfl (fr.ev rfl) rfl) ⟨hV, B4, O45, B142, B131, B165, B212, trivial⟩ ?_
              clear fr a; intro a fr
              refine fx_take (i := 4) (v := .int .u32 (((allL n L).getD j ln0).num)) fr rfl (by kernel_rfl) rfl rfl (by first | decide | simp) (fun _ _ _ h => h) (fun _ ⟨hV, B4, O45, B142, B131, B165, B212, _⟩ => x_load1 pl33 rfl (fr.ev rfl) (range_cell ((O45.view).elem hA206 j ln0 (by omega)) 0 rfl rfl)) ⟨hV, B4, O45, B142, B131, B165, B212, trivial⟩ ?_
              clear fr a; intro a fr
              refine fx_take (i := 5) (v := .pointer (some ⟨b1, 1, none⟩)) fr rfl (by kernel_rfl) rfl rfl (by first | decide | simp) (fun _ _ _ h => h) (fun _ ⟨hV, B4, O45, B142, B131, B165, B212, _⟩ => x_fieldAddr fo57_1 rfl (fr.ev rfl) rfl) ⟨hV, B4, O45, B142, B131, B165, B212, trivial⟩ ?_
              clear fr a; intro a fr
              refine fx_take (i := 6) (v := .pointer (some ⟨b1, 1, none⟩)) fr rfl (by kernel_rfl) rfl rfl (by first | decide | simp) (fun _ _ _ h => h) (fun _ ⟨hV, B4, O45, B142, B131, B165, B212, _⟩ => x_fieldAddr fo39_0 rfl (fr.ev rfl) rfl) ⟨hV, B4, O45, B142, B131, B165, B212, trivial⟩ ?_
              clear fr a; intro a fr
              refine fx_take (i := 7) (v := .int .u32 q.ln.num) fr rfl (by kernel_rfl) rfl rfl (by first | decide | simp) (fun _ _ _ h => h) (fun _ ⟨hV, B4, O45, B142, B131, B165, B212, _⟩ => x_load1 pl33 rfl (fr.ev rfl) (B4.cell 1 rfl)) ⟨hV, B4, O45, B142, B131, B165, B212, trivial⟩ ?_
              clear fr a; intro a fr
              refine fx_take (i := 8) (v := .bool true) fr rfl (by kernel_rfl) rfl rfl (by first | decide | simp) (fun _ _ _ h => h) (fun _ ⟨hV, B4, O45, B142, B131, B165, B212, _⟩ => x_neq rfl (fr.ev rfl) (fr.ev rfl) (by first | (exact decide_eq_true h1) | simp [h1])) ⟨hV, B4, O45, B142, B131, B165, B212, trivial⟩ ?_
              clear fr a; intro a fr
              refine fx_take (i := 9) (v := .bool true) fr rfl (by kernel_rfl) rfl rfl (by first | decide | simp) (fun _ _ _ h => h) (fun _ ⟨hV, B4, O45, B142, B131, B165, B212, _⟩ => x_move rfl (fr.ev rfl)) ⟨hV, B4, O45, B142, B131, B165, B212, trivial⟩ ?_
              clear fr a; intro a fr
              refine fx_take (i := 10) (v := .slice A43 ((allL n L).length) cap44) fr rfl (by kernel_rfl) (fr.want rfl rfl rfl) rfl (by first | decide | simp) (fun _ _ _ h => h) (fun _ ⟨hV, B4, O45, B142, B131, B165, B212, _⟩ => x_move rfl (fr.ev rfl)) ⟨hV, B4, O45, B142, B131, B165, B212, trivial⟩ ?_
              clear fr a; intro a fr
              refine fx_take (i := 11) (v := .int .i64 ((j : Nat) : Int)) fr rfl (by kernel_rfl) (fr.want rfl rfl rfl) rfl (by first | decide | simp) (fun _ _ _ h => h) (fun _ ⟨hV, B4, O45, B142, B131, B165, B212, _⟩ => x_move rfl (fr.ev rfl)) ⟨hV, B4, O45, B142, B131, B165, B212, trivial⟩ ?_
              clear fr a; intro a fr
              refine fx_take (i := 12) (v := .pointer (some ⟨g204, o205 + j * 18, none⟩)) fr rfl (by kernel_rfl) (fr.want rfl rfl rfl) rfl (by first | decide | simp) (fun _ _ _ h => h) (fun _ ⟨hV, B4, O45, B142, B131, B165, B212, _⟩ => x_indexV Try.underlying26 sz39 rfl (fr.ev rfl) hA206 (fr.ev rfl) (by omega) rfl) ⟨hV, B4, O45, B142, B131, B165, B212, trivial⟩ ?_
              clear fr a; intro a fr
              refine fx_take (i := 13) (v := .agg (lnE.arr ((allL n L).getD j ln0))) fr rfl (by kernel_rfl) (fr.want rfl rfl rfl) rfl (by first | decide | simp) (fun _ _ _ h => h) (fun _ ⟨hV, B4, O45, B142, B131, B165, B212, _⟩ => x_loadE (E := lnE) ag39 rfl rfl (fr.ev rfl) ((O45.view).elem hA206 j ln0 (by omega))) ⟨hV, B4, O45, B142, B131, B165, B212, trivial⟩ ?_
              clear fr a; intro a fr
              refine fx_take (i := 14) (v := .agg (lnE.arr g)) fr rfl (by kernel_rfl) (fr.want rfl rfl rfl) rfl (by first | decide | simp) (fun _ _ _ h => h) (fun _ ⟨hV, B4, O45, B142, B131, B165, B212, _⟩ => x_loadE (E := lnE) ag39 rfl rfl (fr.ev rfl) (B131.rangeE lnE)) ⟨hV, B4, O45, B142, B131, B165, B212, trivial⟩ ?_
              clear fr a; intro a fr
              refine fx_take (i := 15) (v := .bool true) fr rfl (by kernel_rfl) (fr.want rfl rfl rfl) rfl (by first | decide | simp) (fun _ _ _ h => h) (fun _ ⟨hV, B4, O45, B142, B131, B165, B212, _⟩ => x_neE lnER rfl rfl (fr.ev rfl) (fr.ev rfl) (by rw [decide_eq_false h2]; try rfl)) ⟨hV, B4, O45, B142, B131, B165, B212, trivial⟩ ?_
              clear fr a; intro a fr
              refine fx_take (i := 16) (v := .bool true) fr rfl (by kernel_rfl) rfl rfl (by first | decide | simp) (fun _ _ _ h => h) (fun _ ⟨hV, B4, O45, B142, B131, B165, B212, _⟩ => x_pick_t rfl (fr.ev rfl) (fr.ev rfl)) ⟨hV, B4, O45, B142, B131, B165, B212, trivial⟩ ?_
              clear fr a; intro a fr
              refine fx_take (i := 17) (v := .bool true) fr rfl (by kernel_rfl) rfl rfl (by first | decide | simp) (fun _ _ _ h => h) (fun _ ⟨hV, B4, O45, B142, B131, B165, B212, _⟩ => x_move rfl (fr.ev rfl)) ⟨hV, B4, O45, B142, B131, B165, B212, trivial⟩ ?_
              clear fr a; intro a fr
              refine fx_take (i := 18) (v := .agg (lnE.arr ((allL n L).getD j ln0))) fr rfl (by kernel_rfl) (fr.want rfl rfl rfl) rfl (by first | decide | simp) (fun _ _ _ h => h) (fun _ ⟨hV, B4, O45, B142, B131, B165, B212, _⟩ => x_loadE (E := lnE) ag39 rfl rfl (fr.ev rfl) (B212.rangeE lnE)) ⟨hV, B4, O45, B142, B131, B165, B212, trivial⟩ ?_
              clear fr a; intro a fr
              refine fx_take (i := 19) (v := .slice A43 ((allL n L).length) cap44) fr rfl (by kernel_rfl) (fr.want rfl rfl rfl) rfl (by first | decide | simp) (fun _ _ _ h => h) (fun _ ⟨hV, B4, O45, B142, B131, B165, B212, _⟩ => x_move rfl (fr.ev rfl)) ⟨hV, B4, O45, B142, B131, B165, B212, trivial⟩ ?_
              clear fr a; intro a fr
              refine fx_take (i := 20) (v := .int .i64 ((j : Nat) : Int)) fr rfl (by kernel_rfl) (fr.want rfl rfl rfl) rfl (by first | decide | simp) (fun _ _ _ h => h) (fun _ ⟨hV, B4, O45, B142, B131, B165, B212, _⟩ => x_move rfl (fr.ev rfl)) ⟨hV, B4, O45, B142, B131, B165, B212, trivial⟩ ?_
              clear fr a; intro a fr
              refine fx_take (i := 21) (v := .pointer (some ⟨g204, o205 + j * 18, none⟩)) fr rfl (by kernel_rfl) (fr.want rfl rfl rfl) rfl (by first | decide | simp) (fun _ _ _ h => h) (fun _ ⟨hV, B4, O45, B142, B131, B165, B212, _⟩ => x_indexV Try.underlying26 sz39 rfl (fr.ev rfl) hA206 (fr.ev rfl) (by omega) rfl) ⟨hV, B4, O45, B142, B131, B165, B212, trivial⟩ ?_
              clear fr a; intro a fr
              refine fx_take (i := 22) (v := .agg (lnE.arr ((allL n L).getD j ln0))) fr rfl (by kernel_rfl) (fr.want rfl rfl rfl) rfl (by first | decide | simp) (fun _ _ _ h => h) (fun _ ⟨hV, B4, O45, B142, B131, B165, B212, _⟩ => x_loadE (E := lnE) ag39 rfl rfl (fr.ev rfl) ((O45.view).elem hA206 j ln0 (by omega))) ⟨hV, B4, O45, B142, B131, B165, B212, trivial⟩ ?_
              clear fr a; intro a fr
              refine fx_take (i := 23) (v := .bool false) fr rfl (by kernel_rfl) (fr.want rfl rfl rfl) rfl (by first | decide | simp) (fun _ _ _ h => h) (fun _ ⟨hV, B4, O45, B142, B131, B165, B212, _⟩ => x_neE lnER rfl rfl (fr.ev rfl) (fr.ev rfl) (by simp)) ⟨hV, B4, O45, B142, B131, B165, B212, trivial⟩ ?_
              clear fr a; intro a fr
              refine fx_take (i := 24) (v := .bool false) fr rfl (by kernel_rfl) (fr.want rfl rfl rfl) rfl (by first | decide | simp) (fun _ _ _ h => h) (fun _ ⟨hV, B4, O45, B142, B131, B165, B212, _⟩ => x_move rfl (fr.ev rfl)) ⟨hV, B4, O45, B142, B131, B165, B212, trivial⟩ ?_
              clear fr a; intro a fr
              refine fx_take (i := 25) (v := .bool true) fr rfl (by kernel_rfl) (fr.want rfl rfl rfl) rfl (by first | decide | simp) (fun _ _ _ h => h) (fun _ ⟨hV, B4, O45, B142, B131, B165, B212, _⟩ => x_move rfl (fr.ev rfl)) ⟨hV, B4, O45, B142, B131, B165, B212, trivial⟩ ?_
              clear fr a; intro a fr
              refine fx_take (i := 26) (v := .bool false) fr rfl (by kernel_rfl) (fr.want rfl rfl rfl) rfl (by first | decide | simp) (fun _ _ _ h => h) (fun _ ⟨hV, B4, O45, B142, B131, B165, B212, _⟩ => x_not rfl (fr.ev rfl) rfl) ⟨hV, B4, O45, B142, B131, B165, B212, trivial⟩ ?_
              clear fr a; intro a fr
              refine fx_take (i := 27) (v := .bool false) fr rfl (by kernel_rfl) (fr.want rfl rfl rfl) rfl (by first | decide | simp) (fun _ _ _ h => h) (fun _ ⟨hV, B4, O45, B142, B131, B165, B212, _⟩ => x_pick_f rfl (fr.ev rfl) (fr.ev rfl)) ⟨hV, B4, O45, B142, B131, B165, B212, trivial⟩ ?_
              clear fr a; intro a fr
              refine fx_take (i := 28) (v := .bool false) fr rfl (by kernel_rfl) rfl rfl (by first | decide | simp) (fun _ _ _ h => h) (fun _ ⟨hV, B4, O45, B142, B131, B165, B212, _⟩ => x_pick_t rfl (fr.ev rfl) (fr.ev rfl)) ⟨hV, B4, O45, B142, B131, B165, B212, trivial⟩ ?_
              clear fr a; intro a fr
              refine fx_hdone (by kernel_rfl) ?_
              refine fx_next ?_
              refine fx_cond_f fr rfl ?_
              refine wp_skip ?_
              refine fx_blk ?_
              refine fx_next ?_
              refine wp_region_lit ?_  -- region 24
              refine fx_val (v := .int .i64 ((j : Nat) : Int)) fr rfl rfl (by first | decide | simp) (x_move rfl (fr.ev rfl)) ?_
              clear fr a; intro a fr
              refine fx_val (v := .int .i64 ((j + 1 : Nat) : Int)) fr rfl rfl (by first | decide | simp) (x_add rfl (fr.ev rfl) rfl (i64w (r := ((j + 1 : Nat) : Int)) (by omega) (by omega))) ?_
              clear fr a; intro a fr
              refine fx_val (v := .int .i64 ((j + 1 : Nat) : Int)) fr rfl rfl (by first | decide | simp) (x_assign rfl (fr.ev rfl)) ?_
              clear fr a; intro a fr
              refine wpList_nil ?_
              refine fx_next ?_
              exact ⟨_, by omega, (j + 1), rfl, fr.sub ⟨rfl, rfl, rfl, rfl, rfl, rfl, trivial⟩, hF, hV, B4, O45, B142, B131, H156, B165, by omega⟩
        · skip
          have hc175 := of_decide_eq_false hc175
          refine wp_exit ?_
          refine fx_xt ?_
          refine fx_xt ?_
          refine fx_xx ?_
          refine fx_next ?_
          refine wp_seq ?_
          refine wp_region_lit ?_  -- region 28
          refine fx_call fr rfl rfl (by first | decide | simp) (x_call (vs := []) rfl rfl trivial Try.func11 nm11 rfl) (works_c _) ?_
          clear fr a
          rintro v w218 ⟨rfl, hN219⟩ a fr
          replace hV := hV.new hN219
          replace B4 := B4.new hN219
          replace O45 := O45.new hN219
          replace B142 := B142.new hN219
          replace B131 := B131.new hN219
          replace H156 := H156.new hN219
          replace B165 := B165.new hN219
          replace hF := hF.trNew hN219
          refine fx_val (v := .bool true) fr rfl rfl (by first | decide | simp) (x_assign rfl (fr.ev rfl)) ?_
          clear fr a; intro a fr
          refine wpList_nil ?_
          refine fx_next ?_
          refine wp_ret ?_
          refine fx_ret fr [.tmp 10] [.bool true] rfl ⟨rfl, trivial⟩ rfl ?_
          exact ⟨_, rfl, rfl, hF⟩
end Go.Proofs.Ytdjgfkjcpalihaa
