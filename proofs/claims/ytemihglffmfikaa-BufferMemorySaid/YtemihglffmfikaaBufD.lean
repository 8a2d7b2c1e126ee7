/-
  The iterator behind All and Forward; Reverse. Printed by gen_d.py.
-/
import Derived.Test.YtemihglffmfikaaBufP
namespace Go.Proofs.Ytemihglffmfikaa
open Go.RowKit

set_option maxRecDepth 100000 in
set_option maxHeartbeats 4000000 in
theorem all_stops {w : World} {b bn : Nat} {l : List VSt} (H : BufAt w b l) (Bn : Blk w bn 25 #[.pointer (some ⟨b, 0, none⟩)]) {S : Nat → Prop} (hS_bn : ¬ S bn) (hS_b : ¬ S b) : SeqStopsK Fence.wide 8 Try.prog 37 #[.pointer (some ⟨bn, 0, none⟩)] (fun x : VSt => #[.agg (stE.arr x.1)]) (Only S) (fun ys => ys = l.reverse) (fun pre => pre <+: l.reverse) (l.reverse).length w := by
  intro y J Jx w1 hW hJ hJx hY h0
  obtain ⟨X, hB, hX⟩ := H
  have hn := below_new hW
  replace Bn := Bn.new hn
  replace hB := hB.new hn
  have hX1 := hX.first
  have hX2 := hX.n
  have hX3 := hX.most
  show CallsIn Fence.wide 8 Try.prog 37 #[.func (.yield y) #[] #[], .pointer (some ⟨bn, 0, none⟩)] w1 _
  refine (callsIn_wide (n := 8)).2 ?_
  refine fx_enter Try.func37 rfl (N := (19, [])) (T := [(0, .func (.yield y) #[] #[]), (1, .pointer (some ⟨bn, 0, none⟩))]) rfl (show 2 ≤ 19 by decide) ⟨rfl, rfl, trivial⟩ fun a fr => ?_
  refine wp_seq ?_
  refine wp_region_lit ?_  -- region 0
  refine fx_val (v := .pointer (some ⟨b, 0, none⟩)) fr rfl rfl (by first | decide | simp) (x_load1 pl25 rfl (fr.ev rfl) (Bn.cell 0 rfl)) ?_
  clear fr a; intro a fr
  refine fx_call fr rfl rfl (by first | decide | simp) (x_call (vs := [.pointer (some ⟨b, 0, none⟩)]) rfl rfl ⟨(fr.ev rfl), trivial⟩ Try.func21 nm21 rfl) ((len_c ⟨X, hB, hX⟩)) ?_
  clear fr a
  rintro v _ ⟨rfl, rfl⟩ a fr
  refine fx_val (v := .int .i64 (((l.length : Nat) : Int) - 1)) fr rfl rfl (by first | decide | simp) (x_sub rfl (fr.ev rfl) rfl (i64w (r := ((l.length : Nat) : Int) - 1) (by omega) (by omega))) ?_
  clear fr a; intro a fr
  refine fx_val (v := .int .i64 (((l.length : Nat) : Int) - 1)) fr rfl rfl (by first | decide | simp) (x_assign rfl (fr.ev rfl)) ?_
  clear fr a; intro a fr
  refine wpList_nil ?_
  refine fx_next ?_
  refine wp_block ?_
  rw [show ((l.length : Nat) : Int) - 1 = ((l.length : Nat) : Int) - 1 - ((0 : Nat) : Int) by simp] at fr
  refine fx_loop (fun nM a wL => ∃ j : Nat, nM = l.length - j ∧ Fr (19, []) [(0, .func (.yield y) #[] #[]), (1, .pointer (some ⟨bn, 0, none⟩)), (3, .int .i64 (((l.length : Nat) : Int) - 1 - ((j : Nat) : Int)))] a ∧ Blk wL bn 25 #[.pointer (some ⟨b, 0, none⟩)] ∧ Blk wL b 63 (bufE.arr X) ∧ J (l.reverse.take j) wL ∧ j ≤ l.length) (n0 := _) ⟨0, rfl, fr.sub ⟨rfl, rfl, rfl, trivial⟩, Bn, hB, h0, by omega⟩ ?_
  rintro n4 a w3 ⟨j, rfl, fr, Bn, hB, hj, hjl⟩
  refine wp_seq ?_
  refine wp_seq ?_
  refine wp_region_lit ?_  -- region 1
  refine fx_val (v := .int .i64 (((l.length : Nat) : Int) - 1 - ((j : Nat) : Int))) fr rfl rfl (by first | decide | simp) (x_move rfl (fr.ev rfl)) ?_
  clear fr a; intro a fr
  refine fx_val (v := .bool (decide (0 ≤ ((l.length : Nat) : Int) - 1 - ((j : Nat) : Int)))) fr rfl rfl (by first | decide | simp) (x_geq rfl (fr.ev rfl) rfl rfl) ?_
  clear fr a; intro a fr
  refine wpList_nil ?_
  refine fx_next ?_
  refine fx_cond fr rfl (fun hc5 => ?_) (fun hc5 => ?_)
  · skip
    have hc5 := of_decide_eq_true hc5
    refine wp_skip ?_
    refine fx_next ?_
    refine wp_seq ?_
    refine wp_block ?_
    refine wp_seq ?_
    rw [show ((l.length : Nat) : Int) - 1 - ((j : Nat) : Int) = ((l.length - 1 - j : Nat) : Int) by omega] at fr
    have hF := Only.refl (fun _ => False) w3
    refine fxi_region ?_  -- region 3
    refine fxi_val (v := .func (.yield y) #[] #[]) fr rfl rfl (by first | decide | simp) (x_move rfl (fr.ev rfl)) ?_
    clear fr a; intro a fr
    refine fxi_val (v := .pointer (some ⟨b, 0, none⟩)) fr rfl rfl (by first | decide | simp) (x_load1 pl25 rfl (fr.ev rfl) (Bn.cell 0 rfl)) ?_
    clear fr a; intro a fr
    refine fxi_val (v := .int .i64 ((l.length - 1 - j : Nat) : Int)) fr rfl rfl (by first | decide | simp) (x_move rfl (fr.ev rfl)) ?_
    clear fr a; intro a fr
    refine fxi_call fr rfl rfl (by first | decide | simp) (x_call (vs := [.pointer (some ⟨b, 0, none⟩), .int .i64 ((l.length - 1 - j : Nat) : Int)]) rfl rfl ⟨(fr.ev rfl), (fr.ev rfl), trivial⟩ Try.func26 nm26 rfl) (at_c (l.length - 1 - j) hB (by first | omega | (simp only [set_first]; omega)) (by omega)) ?_
    clear fr a
    rintro v w6 ⟨rfl, hN7⟩ a fr
    replace Bn := Bn.new hN7
    replace hB := hB.new hN7
    replace hF := hF.trNew hN7
    refine fxi_val (v := .pointer (some ⟨b, 0 + ((X.first + (l.length - 1 - j)) % 4) * 3, none⟩)) fr rfl rfl (by first | decide | simp) (x_nilCheck rfl (fr.ev rfl)) ?_
    clear fr a; intro a fr
    refine fxi_val (v := .agg (wE.arr (X.get ((X.first + (l.length - 1 - j)) % 4)))) fr rfl rfl (by first | decide | simp) (x_loadE (E := wE) ag60 rfl rfl (fr.ev rfl) (hB.part (buf_part (by omega)))) ?_
    clear fr a; intro a fr
    rw [hX.el (l.length - 1 - j) (by omega)] at fr
    refine fxi_yield (n := 8) fr rfl rfl (by decide) rfl (fr.ev rfl) (fr.ev rfl) (hY _ (l.getD (l.length - 1 - j) v0) _ (AbidesFrom.new hJ hj hF) (by rw [List.length_take, List.length_reverse]; omega)) (fun w8 hy9 a fr => ?_) (fun w8 hy9 a fr => ?_)
    · skip
      skip
      obtain ⟨hj, hk⟩ := hy9
      replace Bn := Bn.only hk hS_bn
      replace hB := hB.only hk hS_b
      refine fxi_val (v := .bool false) fr rfl rfl (by first | decide | simp) (x_not rfl (fr.ev rfl) rfl) ?_
      clear fr a; intro a fr
      refine wpListIn_nil ?_
      refine fx_next ?_
      refine fx_cond_f fr rfl ?_
      refine wp_skip ?_
      refine fx_blk ?_
      refine fx_next ?_
      rw [show ((l.length - 1 - j : Nat) : Int) = ((l.length : Nat) : Int) - 1 - ((j : Nat) : Int) by omega] at fr
      refine wp_region_lit ?_  -- region 2
      refine fx_val (v := .int .i64 (((l.length : Nat) : Int) - 1 - ((j : Nat) : Int))) fr rfl rfl (by first | decide | simp) (x_move rfl (fr.ev rfl)) ?_
      clear fr a; intro a fr
      refine fx_val (v := .int .i64 (((l.length : Nat) : Int) - 1 - ((j + 1 : Nat) : Int))) fr rfl rfl (by first | decide | simp) (x_sub rfl (fr.ev rfl) rfl (i64w (r := ((l.length : Nat) : Int) - 1 - ((j + 1 : Nat) : Int)) (by omega) (by omega))) ?_
      clear fr a; intro a fr
      refine fx_val (v := .int .i64 (((l.length : Nat) : Int) - 1 - ((j + 1 : Nat) : Int))) fr rfl rfl (by first | decide | simp) (x_assign rfl (fr.ev rfl)) ?_
      clear fr a; intro a fr
      refine wpList_nil ?_
      refine fx_next ?_
      exact ⟨_, by omega, (j + 1), rfl, fr.sub ⟨rfl, rfl, rfl, trivial⟩, Bn, hB, (by rw [rev_take (by omega)]; exact hj), by omega⟩
    · skip
      skip
      have hx := hy9
      refine fxi_val (v := .bool true) fr rfl rfl (by first | decide | simp) (x_not rfl (fr.ev rfl) rfl) ?_
      clear fr a; intro a fr
      refine wpListIn_nil ?_
      refine fx_next ?_
      refine fx_cond_t fr rfl ?_
      refine wp_ret ?_
      refine fx_rb ?_
      refine fx_rt ?_
      refine fx_rt ?_
      refine fx_rb ?_
      refine fx_ret fr [] [] rfl trivial rfl ?_
      exact ⟨⟨_, rfl⟩, .inr ⟨_, (by rw [← rev_take (by omega)]; exact List.take_prefix _ _), hx⟩⟩
  · skip
    have hc5 := of_decide_eq_false hc5
    refine wp_exit ?_
    refine fx_xt ?_
    refine fx_xt ?_
    refine fx_xx ?_
    refine fx_end fr [] [] rfl trivial rfl ?_
    exact ⟨⟨_, rfl⟩, .inl ⟨_, (by rw [show j = l.length by omega, List.take_of_length_le (by simp)]), hj⟩⟩
set_option maxRecDepth 100000 in
set_option maxHeartbeats 4000000 in
theorem all_stops_nil {w : World} {bn : Nat} (Bn : Blk w bn 25 #[.pointer none]) {S : Nat → Prop} : SeqStopsK Fence.wide 8 Try.prog 37 #[.pointer (some ⟨bn, 0, none⟩)] (fun x : VSt => #[.agg (stE.arr x.1)]) (Only S) (fun ys => ys = ([] : List VSt)) (fun pre => pre <+: ([] : List VSt)) (([] : List VSt)).length w := by
  intro y J Jx w1 hW hJ hJx hY h0
  have hn := below_new hW
  replace Bn := Bn.new hn
  show CallsIn Fence.wide 8 Try.prog 37 #[.func (.yield y) #[] #[], .pointer (some ⟨bn, 0, none⟩)] w1 _
  refine (callsIn_wide (n := 8)).2 ?_
  refine fx_enter Try.func37 rfl (N := (19, [])) (T := [(0, .func (.yield y) #[] #[]), (1, .pointer (some ⟨bn, 0, none⟩))]) rfl (show 2 ≤ 19 by decide) ⟨rfl, rfl, trivial⟩ fun a fr => ?_
  refine wp_seq ?_
  refine wp_region_lit ?_  -- region 0
  refine fx_val (v := .pointer none) fr rfl rfl (by first | decide | simp) (x_load1 pl25 rfl (fr.ev rfl) (Bn.cell 0 rfl)) ?_
  clear fr a; intro a fr
  refine fx_call fr rfl rfl (by first | decide | simp) (x_call (vs := [.pointer none]) rfl rfl ⟨(fr.ev rfl), trivial⟩ Try.func21 nm21 rfl) (len_nil _) ?_
  clear fr a
  rintro v _ ⟨rfl, rfl⟩ a fr
  refine fx_val (v := .int .i64 (-1)) fr rfl rfl (by first | decide | simp) (x_sub rfl (fr.ev rfl) rfl rfl) ?_
  clear fr a; intro a fr
  refine fx_val (v := .int .i64 (-1)) fr rfl rfl (by first | decide | simp) (x_assign rfl (fr.ev rfl)) ?_
  clear fr a; intro a fr
  refine wpList_nil ?_
  refine fx_next ?_
  refine wp_block ?_
  refine fx_loop (fun nM a wL => nM = 0 ∧ Fr (19, []) [(0, .func (.yield y) #[] #[]), (1, .pointer (some ⟨bn, 0, none⟩)), (3, .int .i64 (-1))] a ∧ Blk wL bn 25 #[.pointer none] ∧ J [] wL) (n0 := _) ⟨rfl, fr.sub ⟨rfl, rfl, rfl, trivial⟩, Bn, h0⟩ ?_
  rintro n4 a w3 ⟨rfl, fr, Bn, hj⟩
  refine wp_seq ?_
  refine wp_seq ?_
  refine wp_region_lit ?_  -- region 1
  refine fx_val (v := .int .i64 (-1)) fr rfl rfl (by first | decide | simp) (x_move rfl (fr.ev rfl)) ?_
  clear fr a; intro a fr
  refine fx_val (v := .bool false) fr rfl rfl (by first | decide | simp) (x_geq rfl (fr.ev rfl) rfl rfl) ?_
  clear fr a; intro a fr
  refine wpList_nil ?_
  refine fx_next ?_
  refine fx_cond_f fr rfl ?_
  refine wp_exit ?_
  refine fx_xt ?_
  refine fx_xt ?_
  refine fx_xx ?_
  refine fx_end fr [] [] rfl trivial rfl ?_
  exact ⟨⟨_, rfl⟩, .inl ⟨_, rfl, hj⟩⟩
set_option maxRecDepth 100000 in
set_option maxHeartbeats 4000000 in
theorem back_c {b : Nat} (w : World) : Calls Try.prog 28 #[.pointer (some ⟨b, 0, none⟩)] w (Ret fun v w' => ∃ bn, v = .func (.func 37) #[] #[.pointer (some ⟨bn, 0, none⟩)] ∧ Blk w' bn 25 #[.pointer (some ⟨b, 0, none⟩)] ∧ w.heap.size ≤ bn ∧ New w w') := by
  have hF := Only.refl (fun _ => False) w
  refine fx_enter Try.func28 rfl (N := (4, [])) (T := [(0, .pointer (some ⟨b, 0, none⟩))]) rfl (show 1 ≤ 4 by decide) ⟨rfl, trivial⟩ fun a fr => ?_
  refine wp_seq ?_
  refine wp_region_lit ?_  -- region 0
  refine fx_new fr rfl rfl (by first | decide | simp) (x_box (cs := #[.pointer (some ⟨b, 0, none⟩)]) rfl (fr.ev rfl) rfl) ?_
  clear fr a
  intro b1 w2 hN3 B4 hb5 a fr
  have g_b1 := Nat.le_trans hF.size hb5
  replace hF := hF.trNew hN3
  refine fx_val (v := .nilFunc) fr rfl rfl (by first | decide | simp) (x_assign rfl rfl) ?_
  clear fr a; intro a fr
  refine wpList_nil ?_
  refine fx_next ?_
  refine wp_seq ?_
  refine wp_region_lit ?_  -- region 1
  refine fx_val (v := .func (.func 37) #[] #[.pointer (some ⟨b1, 0, none⟩)]) fr rfl rfl (by first | decide | simp) (x_makeFunc (vs := [.pointer (some ⟨b1, 0, none⟩)]) rfl ⟨(fr.ev rfl), trivial⟩) ?_
  clear fr a; intro a fr
  refine fx_val (v := .func (.func 37) #[] #[.pointer (some ⟨b1, 0, none⟩)]) fr rfl rfl (by first | decide | simp) (x_assign rfl (fr.ev rfl)) ?_
  clear fr a; intro a fr
  refine wpList_nil ?_
  refine fx_next ?_
  refine wp_ret ?_
  refine fx_ret fr [.tmp 2] [.func (.func 37) #[] #[.pointer (some ⟨b1, 0, none⟩)]] rfl ⟨rfl, trivial⟩ rfl ?_
  exact ⟨_, rfl, b1, rfl, B4, (g_b1), hF⟩
set_option maxRecDepth 100000 in
set_option maxHeartbeats 4000000 in
theorem back_nil (w : World) : Calls Try.prog 28 #[.pointer none] w (Ret fun v w' => ∃ bn, v = .func (.func 37) #[] #[.pointer (some ⟨bn, 0, none⟩)] ∧ Blk w' bn 25 #[.pointer none] ∧ w.heap.size ≤ bn ∧ New w w') := by
  have hF := Only.refl (fun _ => False) w
  refine fx_enter Try.func28 rfl (N := (4, [])) (T := [(0, .pointer none)]) rfl (show 1 ≤ 4 by decide) ⟨rfl, trivial⟩ fun a fr => ?_
  refine wp_seq ?_
  refine wp_region_lit ?_  -- region 0
  refine fx_new fr rfl rfl (by first | decide | simp) (x_box (cs := #[.pointer none]) rfl (fr.ev rfl) rfl) ?_
  clear fr a
  intro b1 w2 hN3 B4 hb5 a fr
  have g_b1 := Nat.le_trans hF.size hb5
  replace hF := hF.trNew hN3
  refine fx_val (v := .nilFunc) fr rfl rfl (by first | decide | simp) (x_assign rfl rfl) ?_
  clear fr a; intro a fr
  refine wpList_nil ?_
  refine fx_next ?_
  refine wp_seq ?_
  refine wp_region_lit ?_  -- region 1
  refine fx_val (v := .func (.func 37) #[] #[.pointer (some ⟨b1, 0, none⟩)]) fr rfl rfl (by first | decide | simp) (x_makeFunc (vs := [.pointer (some ⟨b1, 0, none⟩)]) rfl ⟨(fr.ev rfl), trivial⟩) ?_
  clear fr a; intro a fr
  refine fx_val (v := .func (.func 37) #[] #[.pointer (some ⟨b1, 0, none⟩)]) fr rfl rfl (by first | decide | simp) (x_assign rfl (fr.ev rfl)) ?_
  clear fr a; intro a fr
  refine wpList_nil ?_
  refine fx_next ?_
  refine wp_ret ?_
  refine fx_ret fr [.tmp 2] [.func (.func 37) #[] #[.pointer (some ⟨b1, 0, none⟩)]] rfl ⟨rfl, trivial⟩ rfl ?_
  exact ⟨_, rfl, b1, rfl, B4, (g_b1), hF⟩
set_option maxRecDepth 100000 in
set_option maxHeartbeats 4000000 in
theorem reverse_c {w : World} {A : Option Addr} {cap : Nat} {l : List St} (O : Own stE w A cap l) : Calls Try.prog 35 #[.slice A l.length cap] w (Ret fun v w' => Own stE w' A cap l.reverse ∧ Only (inA A) w w') := by
  have hVl := O.len
  unfold maxLen at hVl
  have gA_A : ∀ g, inA A g → (inA A) g ∨ w.heap.size ≤ g := fun g hg => .inl hg
  have hF := Only.refl (inA A) w
  refine fx_enter Try.func35 rfl (N := (28, [])) (T := [(0, .slice A l.length cap)]) rfl (show 1 ≤ 28 by decide) ⟨rfl, trivial⟩ fun a fr => ?_
  refine wp_seq ?_
  refine wp_region_lit ?_  -- region 0
  refine fx_val (v := .slice A l.length cap) fr rfl rfl (by first | decide | simp) (x_move rfl (fr.ev rfl)) ?_
  clear fr a; intro a fr
  refine fx_val (v := .int .i64 ((l.length : Nat) : Int)) fr rfl rfl (by first | decide | simp) (x_len Try.underlying32 rfl (fr.ev rfl)) ?_
  clear fr a; intro a fr
  refine fx_val (v := .int .i64 (((l.length : Nat) : Int) - 1)) fr rfl rfl (by first | decide | simp) (x_sub rfl (fr.ev rfl) rfl (i64w (r := ((l.length : Nat) : Int) - 1) (by omega) (by omega))) ?_
  clear fr a; intro a fr
  refine fx_val (v := .int .i64 0) fr rfl rfl (by first | decide | simp) (x_assign rfl rfl) ?_
  clear fr a; intro a fr
  refine fx_val (v := .int .i64 (((l.length : Nat) : Int) - 1)) fr rfl rfl (by first | decide | simp) (x_assign rfl (fr.ev rfl)) ?_
  clear fr a; intro a fr
  refine wpList_nil ?_
  refine fx_next ?_
  refine wp_block ?_
  rw [show ((l.length : Nat) : Int) - 1 = ((l.length : Nat) : Int) - 1 - ((0 : Nat) : Int) by simp] at fr
  refine fx_loop (fun nM a wL => ∃ i : Nat, ∃ ll : List St, nM = l.length - i ∧ Fr (28, []) [(0, .slice A l.length cap), (2, .int .i64 ((i : Nat) : Int)), (3, .int .i64 (((l.length : Nat) : Int) - 1 - ((i : Nat) : Int)))] a ∧ Only (inA A) w wL ∧ Own stE wL A cap ll ∧ 2 * i ≤ l.length + 1 ∧ ll.length = l.length ∧ RevAt l ll i) (n0 := _) ⟨0, l, rfl, fr.sub ⟨rfl, rfl, rfl, trivial⟩, hF, O, by omega, rfl, RevAt.zero⟩ ?_
  rintro n2 a w1 ⟨i, ll, rfl, fr, hF, O, hi, hll, hall⟩
  refine wp_seq ?_
  refine wp_seq ?_
  refine wp_region_lit ?_  -- region 1
  refine fx_val (v := .int .i64 ((i : Nat) : Int)) fr rfl rfl (by first | decide | simp) (x_move rfl (fr.ev rfl)) ?_
  clear fr a; intro a fr
  refine fx_val (v := .int .i64 (((l.length : Nat) : Int) - 1 - ((i : Nat) : Int))) fr rfl rfl (by first | decide | simp) (x_move rfl (fr.ev rfl)) ?_
  clear fr a; intro a fr
  refine fx_val (v := .bool (decide (((i : Nat) : Int) < ((l.length : Nat) : Int) - 1 - ((i : Nat) : Int)))) fr rfl rfl (by first | decide | simp) (x_lss rfl (fr.ev rfl) (fr.ev rfl) rfl) ?_
  clear fr a; intro a fr
  refine wpList_nil ?_
  refine fx_next ?_
  refine fx_cond fr rfl (fun hc3 => ?_) (fun hc3 => ?_)
  · skip
    have hc3 := of_decide_eq_true hc3
    refine wp_skip ?_
    refine fx_next ?_
    refine wp_seq ?_
    refine wp_block ?_
    rw [show ((l.length : Nat) : Int) - 1 - ((i : Nat) : Int) = ((l.length - 1 - i : Nat) : Int) by omega] at fr
    refine fx_heldT (n := 14) (k := 14) (fun w => True) (by kernel_rfl) (by kernel_rfl) rfl ?_  -- region 3
    intro w4 hN5
    replace O := O.new hN5
    replace hF := hF.trNew hN5
    refine fx_take (i := 0) (v := .slice A l.length cap) fr rfl (by kernel_rfl) rfl rfl (by first | decide | simp) (fun _ _ _ h => h) (fun _ _ => x_move rfl (fr.ev rfl)) trivial ?_
    clear fr a; intro a fr
    refine fx_take (i := 1) (v := .int .i64 ((i : Nat) : Int)) fr rfl (by kernel_rfl) rfl rfl (by first | decide | simp) (fun _ _ _ h => h) (fun _ _ => x_move rfl (fr.ev rfl)) trivial ?_
    clear fr a; intro a fr
    refine fx_take (i := 2) (v := .slice A l.length cap) fr rfl (by kernel_rfl) rfl rfl (by first | decide | simp) (fun _ _ _ h => h) (fun _ _ => x_move rfl (fr.ev rfl)) trivial ?_
    clear fr a; intro a fr
    refine fx_take (i := 3) (v := .int .i64 ((l.length - 1 - i : Nat) : Int)) fr rfl (by kernel_rfl) rfl rfl (by first | decide | simp) (fun _ _ _ h => h) (fun _ _ => x_move rfl (fr.ev rfl)) trivial ?_
    clear fr a; intro a fr
    refine fx_take (i := 4) (v := .slice A l.length cap) fr rfl (by kernel_rfl) rfl rfl (by first | decide | simp) (fun _ _ _ h => h) (fun _ _ => x_move rfl (fr.ev rfl)) trivial ?_
    clear fr a; intro a fr
    refine fx_take (i := 5) (v := .int .i64 ((l.length - 1 - i : Nat) : Int)) fr rfl (by kernel_rfl) rfl rfl (by first | decide | simp) (fun _ _ _ h => h) (fun _ _ => x_move rfl (fr.ev rfl)) trivial ?_
    clear fr a; intro a fr
    obtain ⟨g6, o7, hA8⟩ := (O.view).some_ (by omega)
    refine fx_take (i := 6) (v := .pointer (some ⟨g6, o7 + (l.length - 1 - i) * 3, none⟩)) fr rfl (by kernel_rfl) rfl rfl (by first | decide | simp) (fun _ _ _ h => h) (fun _ _ => x_indexV Try.underlying32 sz24 rfl (fr.ev rfl) hA8 (fr.ev rfl) (by omega) rfl) trivial ?_
    clear fr a; intro a fr
    refine fx_take (i := 8) (v := .slice A l.length cap) fr rfl (by kernel_rfl) rfl rfl (by first | decide | simp) (fun _ _ _ h => h) (fun _ _ => x_move rfl (fr.ev rfl)) trivial ?_
    clear fr a; intro a fr
    refine fx_take (i := 9) (v := .int .i64 ((i : Nat) : Int)) fr rfl (by kernel_rfl) rfl rfl (by first | decide | simp) (fun _ _ _ h => h) (fun _ _ => x_move rfl (fr.ev rfl)) trivial ?_
    clear fr a; intro a fr
    refine fx_take (i := 10) (v := .pointer (some ⟨g6, o7 + i * 3, none⟩)) fr rfl (by kernel_rfl) rfl rfl (by first | decide | simp) (fun _ _ _ h => h) (fun _ _ => x_indexV Try.underlying32 sz24 rfl (fr.ev rfl) hA8 (fr.ev rfl) (by omega) rfl) trivial ?_
    clear fr a; intro a fr
    refine fx_two (i := 7) (j := 11) (by kernel_rfl) (fx_op rfl ?_) (fx_op rfl ?_)
    · skip
      refine fx_val (v := .agg (stE.arr (ll.getD (l.length - 1 - i) st0))) fr rfl rfl (by first | decide | simp) (x_loadE (E := stE) ag24 rfl rfl (fr.ev rfl) ((O.view).elem hA8 (l.length - 1 - i) st0 (by omega))) ?_
      clear fr a; intro a fr
      refine wpList_nil ?_
      refine ⟨trivial, ?_⟩
      refine fx_one (i := 11) (by kernel_rfl) (fx_op rfl ?_)
      refine fx_val (v := .agg (stE.arr (ll.getD i st0))) fr rfl rfl (by first | decide | simp) (x_loadE (E := stE) ag24 rfl rfl (fr.ev rfl) ((O.view).elem hA8 i st0 (by omega))) ?_
      clear fr a; intro a fr
      refine wpList_nil ?_
      refine ⟨trivial, ?_⟩
      refine fx_take (i := 12) (v := .pointer (some ⟨g6, o7 + i * 3, none⟩)) fr rfl (by kernel_rfl) rfl rfl (by first | decide | simp) (fun _ _ _ h => h) (fun _ _ => x_indexV Try.underlying32 sz24 rfl (fr.ev rfl) hA8 (fr.ev rfl) (by omega) rfl) trivial ?_
      clear fr a; intro a fr
      refine fx_one (i := 13) (by kernel_rfl) (fx_op rfl ?_)
      refine fx_storeRec (E := stE) (x' := (ll.getD (l.length - 1 - i) st0)) sz24 rfl rfl rfl hA8 O (by first | omega | (simp only [List.length_set]; omega)) (fr.ev rfl) rfl (fr.ev rfl) fun w9 hO10 hBq => ?_
      replace hF := hF.locA hO10 gA_A
      replace O := hBq
      clear hBq
      refine wpList_nil ?_
      refine ⟨trivial, ?_⟩
      refine fx_hdone (by kernel_rfl) ?_
      refine fx_tail ?_
      refine fx_val (v := .pointer (some ⟨g6, o7 + (l.length - 1 - i) * 3, none⟩)) fr rfl rfl (by first | decide | simp) (x_indexV Try.underlying32 sz24 rfl (fr.ev rfl) hA8 (fr.ev rfl) (by omega) rfl) ?_
      clear fr a; intro a fr
      refine fx_storeRec (E := stE) (x' := (ll.getD i st0)) sz24 rfl rfl rfl hA8 O (by first | omega | (simp only [List.length_set]; omega)) (fr.ev rfl) rfl (fr.ev rfl) fun w11 hO12 hBq => ?_
      replace hF := hF.locA hO12 gA_A
      replace O := hBq
      clear hBq
      refine wpList_nil ?_
      refine fx_blk ?_
      refine fx_next ?_
      rw [show ((l.length - 1 - i : Nat) : Int) = ((l.length : Nat) : Int) - 1 - ((i : Nat) : Int) by omega] at fr
      refine wp_region_lit ?_  -- region 2
      refine fx_val (v := .int .i64 ((i : Nat) : Int)) fr rfl rfl (by first | decide | simp) (x_move rfl (fr.ev rfl)) ?_
      clear fr a; intro a fr
      refine fx_val (v := .int .i64 ((i + 1 : Nat) : Int)) fr rfl rfl (by first | decide | simp) (x_add rfl (fr.ev rfl) rfl (i64w (r := ((i + 1 : Nat) : Int)) (by omega) (by omega))) ?_
      clear fr a; intro a fr
      refine fx_val (v := .int .i64 (((l.length : Nat) : Int) - 1 - ((i : Nat) : Int))) fr rfl rfl (by first | decide | simp) (x_move rfl (fr.ev rfl)) ?_
      clear fr a; intro a fr
      refine fx_val (v := .int .i64 (((l.length : Nat) : Int) - 1 - ((i + 1 : Nat) : Int))) fr rfl rfl (by first | decide | simp) (x_sub rfl (fr.ev rfl) rfl (i64w (r := ((l.length : Nat) : Int) - 1 - ((i + 1 : Nat) : Int)) (by omega) (by omega))) ?_
      clear fr a; intro a fr
      refine fx_val (v := .int .i64 ((i + 1 : Nat) : Int)) fr rfl rfl (by first | decide | simp) (x_assign rfl (fr.ev rfl)) ?_
      clear fr a; intro a fr
      refine fx_val (v := .int .i64 (((l.length : Nat) : Int) - 1 - ((i + 1 : Nat) : Int))) fr rfl rfl (by first | decide | simp) (x_assign rfl (fr.ev rfl)) ?_
      clear fr a; intro a fr
      refine wpList_nil ?_
      refine fx_next ?_
      exact ⟨_, by omega, (i + 1), ((ll.set i (ll.getD (l.length - 1 - i) st0)).set (l.length - 1 - i) (ll.getD i st0)), rfl, fr.sub ⟨rfl, rfl, rfl, trivial⟩, hF, O, by omega, (by simp only [List.length_set]; exact hll), (rev_step (by omega) (by omega) hll hall)⟩
    · skip
      refine fx_val (v := .agg (stE.arr (ll.getD i st0))) fr rfl rfl (by first | decide | simp) (x_loadE (E := stE) ag24 rfl rfl (fr.ev rfl) ((O.view).elem hA8 i st0 (by omega))) ?_
      clear fr a; intro a fr
      refine wpList_nil ?_
      refine ⟨trivial, ?_⟩
      refine fx_one (i := 7) (by kernel_rfl) (fx_op rfl ?_)
      refine fx_val (v := .agg (stE.arr (ll.getD (l.length - 1 - i) st0))) fr rfl rfl (by first | decide | simp) (x_loadE (E := stE) ag24 rfl rfl (fr.ev rfl) ((O.view).elem hA8 (l.length - 1 - i) st0 (by omega))) ?_
      clear fr a; intro a fr
      refine wpList_nil ?_
      refine ⟨trivial, ?_⟩
      refine fx_take (i := 12) (v := .pointer (some ⟨g6, o7 + i * 3, none⟩)) fr rfl (by kernel_rfl) rfl rfl (by first | decide | simp) (fun _ _ _ h => h) (fun _ _ => x_indexV Try.underlying32 sz24 rfl (fr.ev rfl) hA8 (fr.ev rfl) (by omega) rfl) trivial ?_
      clear fr a; intro a fr
      refine fx_one (i := 13) (by kernel_rfl) (fx_op rfl ?_)
      refine fx_storeRec (E := stE) (x' := (ll.getD (l.length - 1 - i) st0)) sz24 rfl rfl rfl hA8 O (by first | omega | (simp only [List.length_set]; omega)) (fr.ev rfl) rfl (fr.ev rfl) fun w13 hO14 hBq => ?_
      replace hF := hF.locA hO14 gA_A
      replace O := hBq
      clear hBq
      refine wpList_nil ?_
      refine ⟨trivial, ?_⟩
      refine fx_hdone (by kernel_rfl) ?_
      refine fx_tail ?_
      refine fx_val (v := .pointer (some ⟨g6, o7 + (l.length - 1 - i) * 3, none⟩)) fr rfl rfl (by first | decide | simp) (x_indexV Try.underlying32 sz24 rfl (fr.ev rfl) hA8 (fr.ev rfl) (by omega) rfl) ?_
      clear fr a; intro a fr
      refine fx_storeRec (E := stE) (x' := (ll.getD i st0)) sz24 rfl rfl rfl hA8 O (by first | omega | (simp only [List.length_set]; omega)) (fr.ev rfl) rfl (fr.ev rfl) fun w15 hO16 hBq => ?_
      replace hF := hF.locA hO16 gA_A
      replace O := hBq
      clear hBq
      refine wpList_nil ?_
      refine fx_blk ?_
      refine fx_next ?_
      rw [show ((l.length - 1 - i : Nat) : Int) = ((l.length : Nat) : Int) - 1 - ((i : Nat) : Int) by omega] at fr
      refine wp_region_lit ?_  -- region 2
      refine fx_val (v := .int .i64 ((i : Nat) : Int)) fr rfl rfl (by first | decide | simp) (x_move rfl (fr.ev rfl)) ?_
      clear fr a; intro a fr
      refine fx_val (v := .int .i64 ((i + 1 : Nat) : Int)) fr rfl rfl (by first | decide | simp) (x_add rfl (fr.ev rfl) rfl (i64w (r := ((i + 1 : Nat) : Int)) (by omega) (by omega))) ?_
      clear fr a; intro a fr
      refine fx_val (v := .int .i64 (((l.length : Nat) : Int) - 1 - ((i : Nat) : Int))) fr rfl rfl (by first | decide | simp) (x_move rfl (fr.ev rfl)) ?_
      clear fr a; intro a fr
      refine fx_val (v := .int .i64 (((l.length : Nat) : Int) - 1 - ((i + 1 : Nat) : Int))) fr rfl rfl (by first | decide | simp) (x_sub rfl (fr.ev rfl) rfl (i64w (r := ((l.length : Nat) : Int) - 1 - ((i + 1 : Nat) : Int)) (by omega) (by omega))) ?_
      clear fr a; intro a fr
      refine fx_val (v := .int .i64 ((i + 1 : Nat) : Int)) fr rfl rfl (by first | decide | simp) (x_assign rfl (fr.ev rfl)) ?_
      clear fr a; intro a fr
      refine fx_val (v := .int .i64 (((l.length : Nat) : Int) - 1 - ((i + 1 : Nat) : Int))) fr rfl rfl (by first | decide | simp) (x_assign rfl (fr.ev rfl)) ?_
      clear fr a; intro a fr
      refine wpList_nil ?_
      refine fx_next ?_
      exact ⟨_, by omega, (i + 1), ((ll.set i (ll.getD (l.length - 1 - i) st0)).set (l.length - 1 - i) (ll.getD i st0)), rfl, fr.sub ⟨rfl, rfl, rfl, trivial⟩, hF, O, by omega, (by simp only [List.length_set]; exact hll), (rev_step (by omega) (by omega) hll hall)⟩
  · skip
    have hc3 := of_decide_eq_false hc3
    refine wp_exit ?_
    refine fx_xt ?_
    refine fx_xt ?_
    refine fx_xx ?_
    refine fx_end fr [] [] rfl trivial rfl ?_
    rw [← hall.done hll (by omega)]
    exact ⟨_, rfl, O, hF⟩
end Go.Proofs.Ytemihglffmfikaa
