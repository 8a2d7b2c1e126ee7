/-
  The walks of New, none, Len, Send, Deliver, Ready. Printed by gen_c.py.
-/
import Derived.Test.YtdpkeabmfhnfiaaNetN
namespace Go.Proofs.Ytdpkeabmfhnfiaa
open Go.RowKit

set_option maxRecDepth 100000 in
set_option maxHeartbeats 4000000 in
theorem none_nil (w : World) : Calls Try.prog 30 #[.pointer none] w (Ret fun v w' => v = .bool true ∧ w' = w) := by
  refine fx_enter Try.func30 rfl (N := (12, [])) (T := [(0, .pointer none)]) rfl (show 1 ≤ 12 by decide) ⟨rfl, trivial⟩ fun a fr => ?_
  refine wp_seq ?_
  refine wp_region_lit ?_  -- region 0
  refine fx_val (v := .bool false) fr rfl rfl (by first | decide | simp) (x_assign rfl rfl) ?_
  clear fr a; intro a fr
  refine wpList_nil ?_
  refine fx_next ?_
  refine wp_seq ?_
  refine wp_region_lit ?_  -- region 1
  refine fx_val (v := .pointer none) fr rfl rfl (by first | decide | simp) (x_move rfl (fr.ev rfl)) ?_
  clear fr a; intro a fr
  refine fx_val (v := .bool true) fr rfl rfl (by first | decide | simp) (x_peql Try.underlying35 rfl (fr.ev rfl) rfl rfl) ?_
  clear fr a; intro a fr
  refine fx_val (v := .bool true) fr rfl rfl (by first | decide | simp) (x_move rfl (fr.ev rfl)) ?_
  clear fr a; intro a fr
  refine fx_skip fr (fr.unwant rfl rfl rfl (by decide)) rfl (by first | decide | simp) ?_
  clear fr a; intro a fr
  refine fx_skip fr (fr.unwant rfl rfl rfl (by decide)) rfl (by first | decide | simp) ?_
  clear fr a; intro a fr
  refine fx_skip fr (fr.unwant rfl rfl rfl (by decide)) rfl (by first | decide | simp) ?_
  clear fr a; intro a fr
  refine fx_skip fr (fr.unwant rfl rfl rfl (by decide)) rfl (by first | decide | simp) ?_
  clear fr a; intro a fr
  refine fx_skip fr (fr.unwant rfl rfl rfl (by decide)) rfl (by first | decide | simp) ?_
  clear fr a; intro a fr
  refine fx_val (v := .bool true) fr rfl rfl (by first | decide | simp) (x_pick_t rfl (fr.ev rfl) rfl) ?_
  clear fr a; intro a fr
  refine fx_val (v := .bool true) fr rfl rfl (by first | decide | simp) (x_assign rfl (fr.ev rfl)) ?_
  clear fr a; intro a fr
  refine wpList_nil ?_
  refine fx_next ?_
  refine wp_ret ?_
  refine fx_ret fr [.tmp 2] [.bool true] rfl ⟨rfl, trivial⟩ rfl ?_
  exact ⟨_, rfl, rfl, rfl⟩
set_option maxRecDepth 100000 in
set_option maxHeartbeats 4000000 in
theorem none_some {w : World} {b : Nat} {v : Value} {most : Int} (hB : Blk w b 71 #[v, .int .i64 most]) (hm : most ≠ 0) : Calls Try.prog 30 #[.pointer (some ⟨b, 0, none⟩)] w (Ret fun v w' => v = .bool false ∧ w' = w) := by
  refine fx_enter Try.func30 rfl (N := (12, [])) (T := [(0, .pointer (some ⟨b, 0, none⟩))]) rfl (show 1 ≤ 12 by decide) ⟨rfl, trivial⟩ fun a fr => ?_
  refine wp_seq ?_
  refine wp_region_lit ?_  -- region 0
  refine fx_val (v := .bool false) fr rfl rfl (by first | decide | simp) (x_assign rfl rfl) ?_
  clear fr a; intro a fr
  refine wpList_nil ?_
  refine fx_next ?_
  refine wp_seq ?_
  refine wp_region_lit ?_  -- region 1
  refine fx_val (v := .pointer (some ⟨b, 0, none⟩)) fr rfl rfl (by first | decide | simp) (x_move rfl (fr.ev rfl)) ?_
  clear fr a; intro a fr
  refine fx_val (v := .bool false) fr rfl rfl (by first | decide | simp) (x_peql Try.underlying35 rfl (fr.ev rfl) rfl rfl) ?_
  clear fr a; intro a fr
  refine fx_val (v := .bool false) fr rfl rfl (by first | decide | simp) (x_move rfl (fr.ev rfl)) ?_
  clear fr a; intro a fr
  refine fx_val (v := .pointer (some ⟨b, 0, none⟩)) fr (fr.want rfl rfl rfl) rfl (by first | decide | simp) (x_move rfl (fr.ev rfl)) ?_
  clear fr a; intro a fr
  refine fx_val (v := .pointer (some ⟨b, 0, none⟩)) fr (fr.want rfl rfl rfl) rfl (by first | decide | simp) (x_nilCheck rfl (fr.ev rfl)) ?_
  clear fr a; intro a fr
  refine fx_val (v := .pointer (some ⟨b, 1, none⟩)) fr (fr.want rfl rfl rfl) rfl (by first | decide | simp) (x_fieldAddr fo71_1 rfl (fr.ev rfl) rfl) ?_
  clear fr a; intro a fr
  refine fx_val (v := .int .i64 most) fr (fr.want rfl rfl rfl) rfl (by first | decide | simp) (x_load1 pl3 rfl (fr.ev rfl) (hB.cell 1 rfl)) ?_
  clear fr a; intro a fr
  refine fx_val (v := .bool (decide (most = 0))) fr (fr.want rfl rfl rfl) rfl (by first | decide | simp) (x_eql rfl (fr.ev rfl) rfl rfl) ?_
  clear fr a; intro a fr
  refine fx_val (v := .bool (decide (most = 0))) fr rfl rfl (by first | decide | simp) (x_pick_f rfl (fr.ev rfl) (fr.ev rfl)) ?_
  clear fr a; intro a fr
  refine fx_val (v := .bool (decide (most = 0))) fr rfl rfl (by first | decide | simp) (x_assign rfl (fr.ev rfl)) ?_
  clear fr a; intro a fr
  refine wpList_nil ?_
  refine fx_next ?_
  refine wp_ret ?_
  refine fx_ret fr [.tmp 2] [.bool (decide (most = 0))] rfl ⟨rfl, trivial⟩ rfl ?_
  exact ⟨_, rfl, congrArg Value.bool (by simp [hm]), rfl⟩
set_option maxRecDepth 100000 in
set_option maxHeartbeats 4000000 in
theorem new_no (most : Int) (w : World) (h : most < 1 ∨ 1024 < most) : Calls Try.prog 14 #[.int .i64 most] w (Ret fun v w' => v = .tuple #[.pointer none, .int .i64 2] ∧ New w w') := by
  have hF := Only.refl (fun _ => False) w
  refine fx_enter Try.func14 rfl (N := (13, [])) (T := [(0, .int .i64 most)]) rfl (show 1 ≤ 13 by decide) ⟨rfl, trivial⟩ fun a fr => ?_
  refine wp_seq ?_
  refine wp_region_lit ?_  -- region 0
  refine fx_val (v := .pointer none) fr rfl rfl (by first | decide | simp) (x_assign rfl rfl) ?_
  clear fr a; intro a fr
  refine fx_val (v := .int .i64 0) fr rfl rfl (by first | decide | simp) (x_assign rfl rfl) ?_
  clear fr a; intro a fr
  refine wpList_nil ?_
  refine fx_next ?_
  refine wp_seq ?_
  refine wp_seq ?_
  refine wp_region_lit ?_  -- region 1
  refine fx_val (v := .int .i64 most) fr rfl rfl (by first | decide | simp) (x_move rfl (fr.ev rfl)) ?_
  clear fr a; intro a fr
  refine fx_val (v := .bool (decide (most < 1))) fr rfl rfl (by first | decide | simp) (x_lss rfl (fr.ev rfl) rfl rfl) ?_
  clear fr a; intro a fr
  refine fx_val (v := .bool (decide (most < 1))) fr rfl rfl (by first | decide | simp) (x_move rfl (fr.ev rfl)) ?_
  clear fr a; intro a fr
  refine fx_may (g := !(decide (most < 1))) (v := .int .i64 most) fr rfl rfl rfl (by simp) rfl (by first | decide | simp) (fun hg => x_move rfl (fr.ev rfl)) ?_
  clear fr a; intro a fr
  refine fx_may (g := !(decide (most < 1))) (v := .bool (decide (1024 < most))) fr rfl rfl rfl (by simp) rfl (by first | decide | simp) (fun hg => x_gtr rfl ((fr.ev rfl).trans (onlyIf_t hg)) rfl rfl) ?_
  clear fr a; intro a fr
  refine fx_val (v := .bool ((decide (most < 1)) || (decide (1024 < most)))) fr rfl rfl (by first | decide | simp) (x_pick_or rfl (fr.ev rfl) (fun _ => rfl) (fun hb => ((fr.ev rfl)).trans (onlyIf_t (by simp_all))) rfl) ?_
  clear fr a; intro a fr
  refine wpList_nil ?_
  refine fx_next ?_
  refine fx_cond fr rfl (fun hc1 => ?_) (fun hc1 => ?_)
  · skip
    refine wp_seq ?_
    refine wp_region_lit ?_  -- region 2
    refine fx_val (v := .pointer none) fr rfl rfl (by first | decide | simp) (x_assign rfl rfl) ?_
    clear fr a; intro a fr
    refine fx_val (v := .int .i64 2) fr rfl rfl (by first | decide | simp) (x_assign rfl rfl) ?_
    clear fr a; intro a fr
    refine wpList_nil ?_
    refine fx_next ?_
    refine wp_ret ?_
    refine fx_rt ?_
    refine fx_ret fr [.tmp 2, .tmp 3] [.pointer none, .int .i64 2] rfl ⟨rfl, rfl, trivial⟩ rfl ?_
    exact ⟨_, rfl, rfl, hF⟩
  · skip
    refine wp_skip ?_
    refine fx_next ?_
    refine wp_seq ?_
    refine wp_region_lit ?_  -- region 3
    refine fx_val (v := .int .i64 most) fr rfl rfl (by first | decide | simp) (x_move rfl (fr.ev rfl)) ?_
    clear fr a; intro a fr
    refine fx_val (v := .agg (#[.slice none 0 0, .int .i64 most])) fr rfl rfl (by first | decide | simp) (x_build (cells := #[.slice none 0 0, .int .i64 most]) rfl (by simp only [List.map_toArray, List.map_cons, List.map_nil, show a.eval (.tmp 10) = .int .i64 most from fr.ev rfl]; kernel_rfl)) ?_
    clear fr a; intro a fr
    refine fx_new fr rfl rfl (by first | decide | simp) (x_box (cs := #[.slice none 0 0, .int .i64 most]) rfl (fr.ev rfl) rfl) ?_
    clear fr a
    intro b2 w3 hN4 B5 hb6 a fr
    have g_b2 := Nat.le_trans hF.size hb6
    replace hF := hF.trNew hN4
    refine fx_val (v := .pointer (some ⟨b2, 0, none⟩)) fr rfl rfl (by first | decide | simp) (x_assign rfl (fr.ev rfl)) ?_
    clear fr a; intro a fr
    refine fx_val (v := .int .i64 0) fr rfl rfl (by first | decide | simp) (x_assign rfl rfl) ?_
    clear fr a; intro a fr
    refine wpList_nil ?_
    refine fx_next ?_
    refine wp_ret ?_
    refine fx_ret fr [.tmp 2, .tmp 3] [.pointer (some ⟨b2, 0, none⟩), .int .i64 0] rfl ⟨rfl, rfl, trivial⟩ rfl ?_
    simp at hc1
    omega
set_option maxRecDepth 100000 in
set_option maxHeartbeats 4000000 in
theorem new_yes (most : Int) (w : World) (h1 : 1 ≤ most) (h2 : most ≤ 1024) : Calls Try.prog 14 #[.int .i64 most] w (Ret fun v w' => ∃ b A cap, v = .tuple #[.pointer (some ⟨b, 0, none⟩), .int .i64 0] ∧ NetAt w' b A cap most [] ∧ w.heap.size ≤ b ∧ (∀ g, inA A g → w.heap.size ≤ g) ∧ New w w') := by
  have hF := Only.refl (fun _ => False) w
  refine fx_enter Try.func14 rfl (N := (13, [])) (T := [(0, .int .i64 most)]) rfl (show 1 ≤ 13 by decide) ⟨rfl, trivial⟩ fun a fr => ?_
  refine wp_seq ?_
  refine wp_region_lit ?_  -- region 0
  refine fx_val (v := .pointer none) fr rfl rfl (by first | decide | simp) (x_assign rfl rfl) ?_
  clear fr a; intro a fr
  refine fx_val (v := .int .i64 0) fr rfl rfl (by first | decide | simp) (x_assign rfl rfl) ?_
  clear fr a; intro a fr
  refine wpList_nil ?_
  refine fx_next ?_
  refine wp_seq ?_
  refine wp_seq ?_
  refine wp_region_lit ?_  -- region 1
  refine fx_val (v := .int .i64 most) fr rfl rfl (by first | decide | simp) (x_move rfl (fr.ev rfl)) ?_
  clear fr a; intro a fr
  refine fx_val (v := .bool (decide (most < 1))) fr rfl rfl (by first | decide | simp) (x_lss rfl (fr.ev rfl) rfl rfl) ?_
  clear fr a; intro a fr
  refine fx_val (v := .bool (decide (most < 1))) fr rfl rfl (by first | decide | simp) (x_move rfl (fr.ev rfl)) ?_
  clear fr a; intro a fr
  refine fx_may (g := !(decide (most < 1))) (v := .int .i64 most) fr rfl rfl rfl (by simp) rfl (by first | decide | simp) (fun hg => x_move rfl (fr.ev rfl)) ?_
  clear fr a; intro a fr
  refine fx_may (g := !(decide (most < 1))) (v := .bool (decide (1024 < most))) fr rfl rfl rfl (by simp) rfl (by first | decide | simp) (fun hg => x_gtr rfl ((fr.ev rfl).trans (onlyIf_t hg)) rfl rfl) ?_
  clear fr a; intro a fr
  refine fx_val (v := .bool ((decide (most < 1)) || (decide (1024 < most)))) fr rfl rfl (by first | decide | simp) (x_pick_or rfl (fr.ev rfl) (fun _ => rfl) (fun hb => ((fr.ev rfl)).trans (onlyIf_t (by simp_all))) rfl) ?_
  clear fr a; intro a fr
  refine wpList_nil ?_
  refine fx_next ?_
  refine fx_cond fr rfl (fun hc1 => ?_) (fun hc1 => ?_)
  · skip
    refine wp_seq ?_
    refine wp_region_lit ?_  -- region 2
    refine fx_val (v := .pointer none) fr rfl rfl (by first | decide | simp) (x_assign rfl rfl) ?_
    clear fr a; intro a fr
    refine fx_val (v := .int .i64 2) fr rfl rfl (by first | decide | simp) (x_assign rfl rfl) ?_
    clear fr a; intro a fr
    refine wpList_nil ?_
    refine fx_next ?_
    refine wp_ret ?_
    refine fx_rt ?_
    refine fx_ret fr [.tmp 2, .tmp 3] [.pointer none, .int .i64 2] rfl ⟨rfl, rfl, trivial⟩ rfl ?_
    simp at hc1
    omega
  · skip
    refine wp_skip ?_
    refine fx_next ?_
    refine wp_seq ?_
    refine wp_region_lit ?_  -- region 3
    refine fx_val (v := .int .i64 most) fr rfl rfl (by first | decide | simp) (x_move rfl (fr.ev rfl)) ?_
    clear fr a; intro a fr
    refine fx_val (v := .agg (#[.slice none 0 0, .int .i64 most])) fr rfl rfl (by first | decide | simp) (x_build (cells := #[.slice none 0 0, .int .i64 most]) rfl (by simp only [List.map_toArray, List.map_cons, List.map_nil, show a.eval (.tmp 10) = .int .i64 most from fr.ev rfl]; kernel_rfl)) ?_
    clear fr a; intro a fr
    refine fx_new fr rfl rfl (by first | decide | simp) (x_box (cs := #[.slice none 0 0, .int .i64 most]) rfl (fr.ev rfl) rfl) ?_
    clear fr a
    intro b2 w3 hN4 B5 hb6 a fr
    have g_b2 := Nat.le_trans hF.size hb6
    replace hF := hF.trNew hN4
    refine fx_val (v := .pointer (some ⟨b2, 0, none⟩)) fr rfl rfl (by first | decide | simp) (x_assign rfl (fr.ev rfl)) ?_
    clear fr a; intro a fr
    refine fx_val (v := .int .i64 0) fr rfl rfl (by first | decide | simp) (x_assign rfl rfl) ?_
    clear fr a; intro a fr
    refine wpList_nil ?_
    refine fx_next ?_
    refine wp_ret ?_
    refine fx_ret fr [.tmp 2, .tmp 3] [.pointer (some ⟨b2, 0, none⟩), .int .i64 0] rfl ⟨rfl, rfl, trivial⟩ rfl ?_
    exact ⟨_, rfl, _, none, 0, rfl, ⟨B5, Own.nil, apart_none _⟩, g_b2, fun g hg => absurd hg (apart_none g), hF⟩
set_option maxRecDepth 100000 in
set_option maxHeartbeats 4000000 in
theorem len_c {w : World} {b : Nat} {A : Option Addr} {cap : Nat} {most : Int} {l : List Msg} (h : NetAt w b A cap most l) (hm : most ≠ 0) : Calls Try.prog 19 #[.pointer (some ⟨b, 0, none⟩)] w (Ret fun v w' => v = .int .i64 (l.length : Nat) ∧ w' = w) := by
  obtain ⟨hB, hO, ap_A_b⟩ := h
  refine fx_enter Try.func19 rfl (N := (10, [])) (T := [(0, .pointer (some ⟨b, 0, none⟩))]) rfl (show 1 ≤ 10 by decide) ⟨rfl, trivial⟩ fun a fr => ?_
  refine wp_seq ?_
  refine wp_region_lit ?_  -- region 0
  refine fx_val (v := .int .i64 0) fr rfl rfl (by first | decide | simp) (x_assign rfl rfl) ?_
  clear fr a; intro a fr
  refine wpList_nil ?_
  refine fx_next ?_
  refine wp_seq ?_
  refine wp_seq ?_
  refine wp_region_lit ?_  -- region 1
  refine fx_val (v := .pointer (some ⟨b, 0, none⟩)) fr rfl rfl (by first | decide | simp) (x_move rfl (fr.ev rfl)) ?_
  clear fr a; intro a fr
  refine fx_call fr rfl rfl (by first | decide | simp) (x_call (vs := [.pointer (some ⟨b, 0, none⟩)]) rfl rfl ⟨(fr.ev rfl), trivial⟩ Try.func30 nm30 rfl) (none_some hB hm) ?_
  clear fr a
  rintro v _ ⟨rfl, rfl⟩ a fr
  refine wpList_nil ?_
  refine fx_next ?_
  refine fx_cond_f fr rfl ?_
  refine wp_skip ?_
  refine fx_next ?_
  refine wp_seq ?_
  refine wp_region_lit ?_  -- region 3
  refine fx_val (v := .pointer (some ⟨b, 0, none⟩)) fr rfl rfl (by first | decide | simp) (x_move rfl (fr.ev rfl)) ?_
  clear fr a; intro a fr
  refine fx_val (v := .pointer (some ⟨b, 0, none⟩)) fr rfl rfl (by first | decide | simp) (x_nilCheck rfl (fr.ev rfl)) ?_
  clear fr a; intro a fr
  refine fx_val (v := .pointer (some ⟨b, 0, none⟩)) fr rfl rfl (by first | decide | simp) (x_fieldAddr fo71_0 rfl (fr.ev rfl) rfl) ?_
  clear fr a; intro a fr
  refine fx_val (v := .slice A l.length cap) fr rfl rfl (by first | decide | simp) (x_load1 pl38 rfl (fr.ev rfl) (hB.cell 0 rfl)) ?_
  clear fr a; intro a fr
  refine fx_val (v := .int .i64 ((l.length : Nat) : Int)) fr rfl rfl (by first | decide | simp) (x_len Try.underlying38 rfl (fr.ev rfl)) ?_
  clear fr a; intro a fr
  refine fx_val (v := .int .i64 ((l.length : Nat) : Int)) fr rfl rfl (by first | decide | simp) (x_assign rfl (fr.ev rfl)) ?_
  clear fr a; intro a fr
  refine wpList_nil ?_
  refine fx_next ?_
  refine wp_ret ?_
  refine fx_ret fr [.tmp 2] [.int .i64 ((l.length : Nat) : Int)] rfl ⟨rfl, trivial⟩ rfl ?_
  exact ⟨_, rfl, rfl, rfl⟩
set_option maxRecDepth 100000 in
set_option maxHeartbeats 4000000 in
theorem send_c (m : Msg) {w : World} {b : Nat} {A : Option Addr} {cap : Nat} {most : Int} {l : List Msg} (h : NetAt w b A cap most l) (hm : most ≠ 0) (hl : l.length ≤ 100000) : Calls Try.prog 15 #[.pointer (some ⟨b, 0, none⟩), .agg (msgE.arr m)] w (Ret fun v w' => v = .int .i64 (sendE most l m) ∧ NetStep w b A most (sendL most l m) w') := by
  obtain ⟨hB, hO, ap_A_b⟩ := h
  have gA_A : ∀ g, inA A g → (g = b ∨ inA A g) ∨ w.heap.size ≤ g := fun g hg => .inl (.inr hg)
  have hF := Only.refl (fun k => k = b ∨ inA A k) w
  refine fx_enter Try.func15 rfl (N := (33, [])) (T := [(0, .pointer (some ⟨b, 0, none⟩)), (1, .agg (msgE.arr m))]) rfl (show 2 ≤ 33 by decide) ⟨rfl, rfl, trivial⟩ fun a fr => ?_
  refine wp_seq ?_
  refine wp_region_lit ?_  -- region 0
  refine fx_new fr rfl rfl (by first | decide | simp) (x_box (cs := msgE.arr m) rfl (fr.ev rfl) rfl) ?_
  clear fr a
  intro b1 w2 hN3 B4 hb5 a fr
  have ne_b_b1 : ¬ b = b1 := Nat.ne_of_lt (Nat.lt_of_lt_of_le hB.lt hb5)
  have ap_A_b1 : Apart A b1 := hO.apart hb5
  have g_b1 := Nat.le_trans hF.size hb5
  replace hB := hB.new hN3
  replace hO := hO.new hN3
  replace hF := hF.trNew hN3
  refine fx_val (v := .int .i64 0) fr rfl rfl (by first | decide | simp) (x_assign rfl rfl) ?_
  clear fr a; intro a fr
  refine wpList_nil ?_
  refine fx_next ?_
  refine wp_seq ?_
  refine wp_seq ?_
  refine wp_region_lit ?_  -- region 1
  refine fx_val (v := .pointer (some ⟨b, 0, none⟩)) fr rfl rfl (by first | decide | simp) (x_move rfl (fr.ev rfl)) ?_
  clear fr a; intro a fr
  refine fx_call fr rfl rfl (by first | decide | simp) (x_call (vs := [.pointer (some ⟨b, 0, none⟩)]) rfl rfl ⟨(fr.ev rfl), trivial⟩ Try.func30 nm30 rfl) (none_some hB hm) ?_
  clear fr a
  rintro v _ ⟨rfl, rfl⟩ a fr
  refine wpList_nil ?_
  refine fx_next ?_
  refine fx_cond_f fr rfl ?_
  refine wp_skip ?_
  refine fx_next ?_
  refine wp_seq ?_
  refine wp_seq ?_
  refine wp_region_lit ?_  -- region 3
  refine fx_val (v := .agg (msgE.arr m)) fr rfl rfl (by first | decide | simp) (x_loadE (E := msgE) ag26 rfl rfl (fr.ev rfl) (B4.rangeE msgE)) ?_
  clear fr a; intro a fr
  refine fx_call fr rfl rfl (by first | decide | simp) (x_call (vs := [.agg (msgE.arr m)]) rfl rfl ⟨(fr.ev rfl), trivial⟩ Try.func11 nm11 rfl) (chk_c m _) ?_
  clear fr a
  rintro v w8 ⟨rfl, hN9⟩ a fr
  replace hB := hB.new hN9
  replace hO := hO.new hN9
  replace B4 := B4.new hN9
  replace hF := hF.trNew hN9
  refine fx_val (v := .int .i64 (chk m)) fr rfl rfl (by first | decide | simp) (x_assign rfl (fr.ev rfl)) ?_
  clear fr a; intro a fr
  refine wpList_nil ?_
  refine fx_next ?_
  refine wp_seq ?_
  refine wp_region_lit ?_  -- region 4
  refine fx_val (v := .int .i64 (chk m)) fr rfl rfl (by first | decide | simp) (x_move rfl (fr.ev rfl)) ?_
  clear fr a; intro a fr
  refine fx_val (v := .bool (decide (chk m ≠ 0))) fr rfl rfl (by first | decide | simp) (x_neq rfl (fr.ev rfl) rfl rfl) ?_
  clear fr a; intro a fr
  refine wpList_nil ?_
  refine fx_next ?_
  refine fx_cond fr rfl (fun hc10 => ?_) (fun hc10 => ?_)
  · skip
    have hc10 := of_decide_eq_true hc10
    refine wp_seq ?_
    refine wp_region_lit ?_  -- region 5
    refine fx_val (v := .int .i64 (chk m)) fr rfl rfl (by first | decide | simp) (x_move rfl (fr.ev rfl)) ?_
    clear fr a; intro a fr
    refine fx_val (v := .int .i64 (chk m)) fr rfl rfl (by first | decide | simp) (x_assign rfl (fr.ev rfl)) ?_
    clear fr a; intro a fr
    refine wpList_nil ?_
    refine fx_next ?_
    refine wp_ret ?_
    refine fx_rt ?_
    refine fx_ret fr [.tmp 4] [.int .i64 (chk m)] rfl ⟨rfl, trivial⟩ rfl ?_
    exact ⟨_, rfl, congrArg (Value.int .i64) (by simp [sendE, chk, chk_bad hc10]), by rw [show sendL most l m = l by simp [sendL, chk_bad hc10]]; exact ⟨A, cap, ⟨hB, hO, ap_A_b⟩, hF, fun g hg => .inl hg⟩⟩
  · skip
    have hc10 := of_decide_eq_false hc10
    refine wp_skip ?_
    refine fx_next ?_
    refine wp_seq ?_
    refine wp_seq ?_
    refine fx_held (n := 10) (fun w => Blk w b 71 #[.slice A l.length cap, .int .i64 most] ∧ Own msgE w A cap l ∧ Blk w b1 26 (msgE.arr m) ∧ True) (by kernel_rfl) rfl ?_  -- region 6
    intro w11 hN12
    replace hB := hB.new hN12
    replace hO := hO.new hN12
    replace B4 := B4.new hN12
    replace hF := hF.trNew hN12
    refine fx_take (i := 0) (v := .pointer (some ⟨b, 0, none⟩)) fr rfl (by kernel_rfl) rfl rfl (by first | decide | simp) (fun _ _ _ h => h) (fun _ ⟨hB, hO, B4, _⟩ => x_move rfl (fr.ev rfl)) ⟨hB, hO, B4, trivial⟩ ?_
    clear fr a; intro a fr
    refine fx_take (i := 1) (v := .pointer (some ⟨b, 0, none⟩)) fr rfl (by kernel_rfl) rfl rfl (by first | decide | simp) (fun _ _ _ h => h) (fun _ ⟨hB, hO, B4, _⟩ => x_nilCheck rfl (fr.ev rfl)) ⟨hB, hO, B4, trivial⟩ ?_
    clear fr a; intro a fr
    refine fx_take (i := 2) (v := .pointer (some ⟨b, 0, none⟩)) fr rfl (by kernel_rfl) rfl rfl (by first | decide | simp) (fun _ _ _ h => h) (fun _ ⟨hB, hO, B4, _⟩ => x_fieldAddr fo71_0 rfl (fr.ev rfl) rfl) ⟨hB, hO, B4, trivial⟩ ?_
    clear fr a; intro a fr
    refine fx_take (i := 3) (v := .slice A l.length cap) fr rfl (by kernel_rfl) rfl rfl (by first | decide | simp) (fun _ _ _ h => h) (fun _ ⟨hB, hO, B4, _⟩ => x_load1 pl38 rfl (fr.ev rfl) (hB.cell 0 rfl)) ⟨hB, hO, B4, trivial⟩ ?_
    clear fr a; intro a fr
    refine fx_take (i := 4) (v := .int .i64 ((l.length : Nat) : Int)) fr rfl (by kernel_rfl) rfl rfl (by first | decide | simp) (fun _ _ _ h => h) (fun _ ⟨hB, hO, B4, _⟩ => x_len Try.underlying38 rfl (fr.ev rfl)) ⟨hB, hO, B4, trivial⟩ ?_
    clear fr a; intro a fr
    refine fx_take (i := 5) (v := .pointer (some ⟨b, 0, none⟩)) fr rfl (by kernel_rfl) rfl rfl (by first | decide | simp) (fun _ _ _ h => h) (fun _ ⟨hB, hO, B4, _⟩ => x_move rfl (fr.ev rfl)) ⟨hB, hO, B4, trivial⟩ ?_
    clear fr a; intro a fr
    refine fx_take (i := 6) (v := .pointer (some ⟨b, 0, none⟩)) fr rfl (by kernel_rfl) rfl rfl (by first | decide | simp) (fun _ _ _ h => h) (fun _ ⟨hB, hO, B4, _⟩ => x_nilCheck rfl (fr.ev rfl)) ⟨hB, hO, B4, trivial⟩ ?_
    clear fr a; intro a fr
    refine fx_take (i := 7) (v := .pointer (some ⟨b, 1, none⟩)) fr rfl (by kernel_rfl) rfl rfl (by first | decide | simp) (fun _ _ _ h => h) (fun _ ⟨hB, hO, B4, _⟩ => x_fieldAddr fo71_1 rfl (fr.ev rfl) rfl) ⟨hB, hO, B4, trivial⟩ ?_
    clear fr a; intro a fr
    refine fx_take (i := 8) (v := .int .i64 most) fr rfl (by kernel_rfl) rfl rfl (by first | decide | simp) (fun _ _ _ h => h) (fun _ ⟨hB, hO, B4, _⟩ => x_load1 pl3 rfl (fr.ev rfl) (hB.cell 1 rfl)) ⟨hB, hO, B4, trivial⟩ ?_
    clear fr a; intro a fr
    refine fx_take (i := 9) (v := .bool (decide (most ≤ ((l.length : Nat) : Int)))) fr rfl (by kernel_rfl) rfl rfl (by first | decide | simp) (fun _ _ _ h => h) (fun _ ⟨hB, hO, B4, _⟩ => x_geq rfl (fr.ev rfl) (fr.ev rfl) rfl) ⟨hB, hO, B4, trivial⟩ ?_
    clear fr a; intro a fr
    refine fx_hdone (by kernel_rfl) ?_
    refine fx_next ?_
    refine fx_cond fr rfl (fun hc13 => ?_) (fun hc13 => ?_)
    · skip
      have hc13 := of_decide_eq_true hc13
      refine wp_seq ?_
      refine wp_region_lit ?_  -- region 7
      refine fx_val (v := .int .i64 210) fr rfl rfl (by first | decide | simp) (x_assign rfl rfl) ?_
      clear fr a; intro a fr
      refine wpList_nil ?_
      refine fx_next ?_
      refine wp_ret ?_
      refine fx_rt ?_
      refine fx_ret fr [.tmp 4] [.int .i64 210] rfl ⟨rfl, trivial⟩ rfl ?_
      exact ⟨_, rfl, congrArg (Value.int .i64) (by simp [sendE, chk_good hc10]; omega), by rw [show sendL most l m = l by simp [sendL, chk_good hc10]; omega]; exact ⟨A, cap, ⟨hB, hO, ap_A_b⟩, hF, fun g hg => .inl hg⟩⟩
    · skip
      have hc13 := of_decide_eq_false hc13
      refine wp_skip ?_
      refine fx_next ?_
      refine wp_seq ?_
      refine fx_heldT (n := 8) (k := 8) (fun w => Blk w b 71 #[.slice A l.length cap, .int .i64 most] ∧ Blk w b1 26 (msgE.arr m) ∧ True) (by kernel_rfl) (by kernel_rfl) rfl ?_  -- region 8
      intro w14 hN15
      replace hB := hB.new hN15
      replace hO := hO.new hN15
      replace B4 := B4.new hN15
      replace hF := hF.trNew hN15
      refine fx_take (i := 0) (v := .pointer (some ⟨b, 0, none⟩)) fr rfl (by kernel_rfl) rfl rfl (by first | decide | simp) (fun _ _ _ h => h) (fun _ ⟨hB, B4, _⟩ => x_move rfl (fr.ev rfl)) ⟨hB, B4, trivial⟩ ?_
      clear fr a; intro a fr
      refine fx_take (i := 1) (v := .pointer (some ⟨b, 0, none⟩)) fr rfl (by kernel_rfl) rfl rfl (by first | decide | simp) (fun _ _ _ h => h) (fun _ ⟨hB, B4, _⟩ => x_move rfl (fr.ev rfl)) ⟨hB, B4, trivial⟩ ?_
      clear fr a; intro a fr
      refine fx_take (i := 2) (v := .pointer (some ⟨b, 0, none⟩)) fr rfl (by kernel_rfl) rfl rfl (by first | decide | simp) (fun _ _ _ h => h) (fun _ ⟨hB, B4, _⟩ => x_nilCheck rfl (fr.ev rfl)) ⟨hB, B4, trivial⟩ ?_
      clear fr a; intro a fr
      refine fx_take (i := 3) (v := .pointer (some ⟨b, 0, none⟩)) fr rfl (by kernel_rfl) rfl rfl (by first | decide | simp) (fun _ _ _ h => h) (fun _ ⟨hB, B4, _⟩ => x_fieldAddr fo71_0 rfl (fr.ev rfl) rfl) ⟨hB, B4, trivial⟩ ?_
      clear fr a; intro a fr
      refine fx_take (i := 4) (v := .slice A l.length cap) fr rfl (by kernel_rfl) rfl rfl (by first | decide | simp) (fun _ _ _ h => h) (fun _ ⟨hB, B4, _⟩ => x_load1 pl38 rfl (fr.ev rfl) (hB.cell 0 rfl)) ⟨hB, B4, trivial⟩ ?_
      clear fr a; intro a fr
      refine fx_take (i := 5) (v := .agg (msgE.arr m)) fr rfl (by kernel_rfl) rfl rfl (by first | decide | simp) (fun _ _ _ h => h) (fun _ ⟨hB, B4, _⟩ => x_loadE (E := msgE) ag26 rfl rfl (fr.ev rfl) (B4.rangeE msgE)) ⟨hB, B4, trivial⟩ ?_
      clear fr a; intro a fr
      refine fx_one (i := 6) (by kernel_rfl) (fx_op rfl ?_)
      refine fx_build1 (E := msgE) (p := m) el38 (by decide) fr rfl rfl (by decide) rfl (fr.ev rfl) ?_
      clear fr a
      intro A16 w17 hN18 O19 hA20 a fr
      have ap_A16_b : Apart A16 b := new_apart hA20 hB.lt
      have ap2_A_A16 : Apart2 A A16 := (new_apart2 hA20 fun _ hg => hO.lt hg).symm
      have ap_A16_b1 : Apart A16 b1 := new_apart hA20 B4.lt
      have gA_A16 := gA_new hF hA20
      replace hB := hB.new hN18
      replace hO := hO.new hN18
      replace B4 := B4.new hN18
      replace hF := hF.trNew hN18
      refine wpList_nil ?_
      refine ⟨⟨hB, B4, trivial⟩, ?_⟩
      refine fx_one (i := 7) (by kernel_rfl) (fx_op rfl ?_)
      refine fx_append (E := msgE) (l := l) (l' := [m]) el38 fr rfl rfl (by decide) rfl (fr.ev rfl) (fr.ev rfl) (by first | rfl | (simp; done) | (simp; omega)) (by first | rfl | (simp; done) | (simp; omega)) hO O19.view (by first | omega | (simp; omega)) (by unfold maxLen; first | omega | (simp; omega)) ?_
      clear fr a
      intro A21 cap22 w23 O24 hO25 mv26 a fr
      have ap_A21_b : Apart A21 b := moved_apart mv26 ap_A_b hB.lt
      have ap_A21_b1 : Apart A21 b1 := moved_apart mv26 ap_A_b1 B4.lt
      have ap2_A21_A16 : Apart2 A21 A16 := moved_apart2 mv26 ap2_A_A16 fun _ hg => O19.lt hg
      have gA_A21 := gA_moved hF mv26 gA_A
      replace hB := hB.only hO25 ap_A_b
      replace B4 := B4.only hO25 ap_A_b1
      replace O19 := O19.only hO25 (fun g h1 h2 => ap2_A_A16.symm g h1 h2)
      replace hF := hF.locA hO25 gA_A
      clear hO
      refine wpList_nil ?_
      refine ⟨⟨hB, B4, trivial⟩, ?_⟩
      refine fx_hdone (by kernel_rfl) ?_
      refine fx_tail ?_
      refine fx_val (v := .pointer (some ⟨b, 0, none⟩)) fr rfl rfl (by first | decide | simp) (x_nilCheck rfl (fr.ev rfl)) ?_
      clear fr a; intro a fr
      refine fx_val (v := .pointer (some ⟨b, 0, none⟩)) fr rfl rfl (by first | decide | simp) (x_fieldAddr fo71_0 rfl (fr.ev rfl) rfl) ?_
      clear fr a; intro a fr
      refine fx_store1 sz38 rfl rfl rfl (fr.ev rfl) (fr.ev rfl) rfl hB (show 0 < 2 by decide) (cs' := #[.slice A21 ((l ++ ([m])).length) cap22, .int .i64 most]) rfl fun w27 hO28 hBq => ?_
      replace B4 := B4.only hO28 (by show ¬ b1 = b; omega)
      replace O19 := O19.only hO28 (Apart.ne1 ap_A16_b)
      replace O24 := O24.only hO28 (Apart.ne1 ap_A21_b)
      replace hF := hF.loc hO28 (.inl (.inl rfl))
      replace hB := hBq
      clear hBq
      refine wpList_nil ?_
      refine fx_next ?_
      refine wp_seq ?_
      refine wp_region_lit ?_  -- region 9
      refine fx_val (v := .int .i64 0) fr rfl rfl (by first | decide | simp) (x_assign rfl rfl) ?_
      clear fr a; intro a fr
      refine wpList_nil ?_
      refine fx_next ?_
      refine wp_ret ?_
      refine fx_ret fr [.tmp 4] [.int .i64 0] rfl ⟨rfl, trivial⟩ rfl ?_
      exact ⟨_, rfl, congrArg (Value.int .i64) (by simp [sendE, chk_good hc10]; omega), by rw [show sendL most l m = l ++ [m] by simp [sendL, chk_good hc10]; omega]; exact ⟨A21, cap22, ⟨hB, O24, ap_A21_b⟩, hF, fun g hg => (gA_A21 g hg).imp (fun h => h.elim (fun e => absurd hg (e ▸ ap_A21_b)) id) id⟩⟩
end Go.Proofs.Ytdpkeabmfhnfiaa
