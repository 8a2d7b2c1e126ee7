/-
  The iterator behind To, and To. Printed by gen_h.py.
-/
import Derived.Test.YtdpkeabmfhnfiaaFXcoll
import Derived.Test.YtdpkeabmfhnfiaaNetF
namespace Go.Proofs.Ytdpkeabmfhnfiaa
open Go.RowKit

set_option maxRecDepth 100000 in
set_option maxHeartbeats 4000000 in
theorem all_stops (node : Int) {w : World} {b bn bk : Nat} {A : Option Addr} {cap : Nat} {most : Int} {l : List Msg} (h : NetAt w b A cap most l) (hm : most ≠ 0) (hl : l.length ≤ 100000) (Bn : Blk w bn 35 #[.pointer (some ⟨b, 0, none⟩)]) (Bk : Blk w bk 3 #[.int .i64 node]) {S : Nat → Prop} (hS_bn : ¬ S bn) (hS_bk : ¬ S bk) (hS_b : ¬ S b) (hS_A : ∀ g, inA A g → ¬ S g) : SeqStopsK Fence.wide 8 Try.prog 35 #[.pointer (some ⟨bn, 0, none⟩), .pointer (some ⟨bk, 0, none⟩)] (fun x => #[.agg (msgE.arr x)]) (Only S) (fun ys => ys = selAll node l) (fun pre => pre <+: selAll node l) (selAll node l).length w := by
  intro y J Jx w1 hW hJ hJx hY h0
  obtain ⟨hB, hO, ap_A_b⟩ := h
  have hn := below_new hW
  replace Bn := Bn.new hn
  replace Bk := Bk.new hn
  replace hB := hB.new hn
  replace hO := hO.new hn
  show CallsIn Fence.wide 8 Try.prog 35 #[.func (.yield y) #[] #[], .pointer (some ⟨bn, 0, none⟩), .pointer (some ⟨bk, 0, none⟩)] w1 _
  refine (callsIn_wide (n := 8)).2 ?_
  refine fx_enter Try.func35 rfl (N := (28, [])) (T := [(0, .func (.yield y) #[] #[]), (1, .pointer (some ⟨bn, 0, none⟩)), (2, .pointer (some ⟨bk, 0, none⟩))]) rfl (show 3 ≤ 28 by decide) ⟨rfl, rfl, rfl, trivial⟩ fun a fr => ?_
  refine wp_scope_straight ?_
  refine wp_seq ?_
  refine wp_seq ?_
  refine wp_region_lit ?_  -- region 0
  refine fx_val (v := .pointer (some ⟨b, 0, none⟩)) fr rfl rfl (by first | decide | simp) (x_load1 pl35 rfl (fr.ev rfl) (Bn.cell 0 rfl)) ?_
  clear fr a; intro a fr
  refine fx_call fr rfl rfl (by first | decide | simp) (x_call (vs := [.pointer (some ⟨b, 0, none⟩)]) rfl rfl ⟨(fr.ev rfl), trivial⟩ Try.func30 nm30 rfl) (none_some hB hm) ?_
  clear fr a
  rintro v _ ⟨rfl, rfl⟩ a fr
  refine wpList_nil ?_
  refine fx_next ?_
  refine fx_cond_f fr rfl ?_
  refine wp_skip ?_
  refine fx_next ?_
  refine wp_seq ?_
  refine wp_label ?_
  refine fx_next ?_
  refine wp_seq ?_
  refine wp_region_lit ?_  -- region 1
  refine fx_val (v := .pointer (some ⟨b, 0, none⟩)) fr rfl rfl (by first | decide | simp) (x_load1 pl35 rfl (fr.ev rfl) (Bn.cell 0 rfl)) ?_
  clear fr a; intro a fr
  refine fx_val (v := .pointer (some ⟨b, 0, none⟩)) fr rfl rfl (by first | decide | simp) (x_nilCheck rfl (fr.ev rfl)) ?_
  clear fr a; intro a fr
  refine fx_val (v := .pointer (some ⟨b, 0, none⟩)) fr rfl rfl (by first | decide | simp) (x_fieldAddr fo71_0 rfl (fr.ev rfl) rfl) ?_
  clear fr a; intro a fr
  refine fx_val (v := .slice A l.length cap) fr rfl rfl (by first | decide | simp) (x_load1 pl38 rfl (fr.ev rfl) (hB.cell 0 rfl)) ?_
  clear fr a; intro a fr
  refine fx_val (v := .int .i64 ((l.length : Nat) : Int)) fr rfl rfl (by first | decide | simp) (x_len Try.underlying38 rfl (fr.ev rfl)) ?_
  clear fr a; intro a fr
  refine fx_val (v := .int .i64 0) fr rfl rfl (by first | decide | simp) (x_move rfl rfl) ?_
  clear fr a; intro a fr
  refine wpList_nil ?_
  refine fx_next ?_
  refine wp_block ?_
  refine fx_loop (fun nM a wL => ∃ k : Nat, nM = l.length - k ∧ Fr (28, []) [(0, .func (.yield y) #[] #[]), (1, .pointer (some ⟨bn, 0, none⟩)), (2, .pointer (some ⟨bk, 0, none⟩)), (11, .slice A l.length cap), (12, .int .i64 ((l.length : Nat) : Int)), (13, .int .i64 ((k : Nat) : Int))] a ∧ Blk wL bn 35 #[.pointer (some ⟨b, 0, none⟩)] ∧ Blk wL bk 3 #[.int .i64 node] ∧ Blk wL b 71 #[.slice A l.length cap, .int .i64 most] ∧ Own msgE wL A cap l ∧ J (sel node l k) wL ∧ k ≤ l.length) (n0 := _) ⟨0, rfl, fr.sub ⟨rfl, rfl, rfl, rfl, rfl, rfl, trivial⟩, Bn, Bk, hB, hO, h0, by omega⟩ ?_
  rintro n4 a w3 ⟨k, rfl, fr, Bn, Bk, hB, hO, hj, hkl⟩
  refine wp_seq ?_
  refine wp_region_lit ?_  -- region 2
  refine fx_val (v := .bool (decide (((k : Nat) : Int) < ((l.length : Nat) : Int)))) fr rfl rfl (by first | decide | simp) (x_lss rfl (fr.ev rfl) (fr.ev rfl) rfl) ?_
  clear fr a; intro a fr
  refine wpList_nil ?_
  refine fx_next ?_
  refine wp_seq ?_
  refine fx_cond fr rfl (fun hc5 => ?_) (fun hc5 => ?_)
  · skip
    have hc5 := of_decide_eq_true hc5
    refine wp_skip ?_
    refine fx_next ?_
    refine wp_seq ?_
    refine wp_block ?_
    refine wp_seq ?_
    have hF := Only.refl (fun _ => False) w3
    refine wp_region_lit ?_  -- region 3
    obtain ⟨g6, o7, hA8⟩ := (hO.view).some_ (by omega)
    refine fx_val (v := .pointer (some ⟨g6, o7 + k * 20, none⟩)) fr rfl rfl (by first | decide | simp) (x_indexV Try.underlying38 sz26 rfl (fr.ev rfl) hA8 (fr.ev rfl) (by omega) rfl) ?_
    clear fr a; intro a fr
    refine fx_val (v := .agg (msgE.arr (l.getD k msg0))) fr rfl rfl (by first | decide | simp) (x_loadE (E := msgE) ag26 rfl rfl (fr.ev rfl) ((hO.view).elem hA8 k msg0 (by omega))) ?_
    clear fr a; intro a fr
    refine fx_new fr rfl rfl (by first | decide | simp) (x_alloc (z := .agg (#[.int .i64 0, .int .i64 0, .int .i64 0, .int .u32 0, .int .u8 0, .int .u8 0, .int .u8 0, .int .u8 0, .int .u8 0, .int .u8 0, .int .u8 0, .int .u8 0, .int .u8 0, .int .u8 0, .int .u8 0, .int .u8 0, .int .u8 0, .int .u8 0, .int .u8 0, .int .u8 0])) (cs := msgE.arr msg0) rfl (by kernel_rfl) rfl) ?_
    clear fr a
    intro b9 w10 hN11 B12 hb13 a fr
    have ne_bn_b9 : ¬ bn = b9 := Nat.ne_of_lt (Nat.lt_of_lt_of_le Bn.lt hb13)
    have ne_bk_b9 : ¬ bk = b9 := Nat.ne_of_lt (Nat.lt_of_lt_of_le Bk.lt hb13)
    have ne_b_b9 : ¬ b = b9 := Nat.ne_of_lt (Nat.lt_of_lt_of_le hB.lt hb13)
    have ap_A_b9 : Apart A b9 := hO.apart hb13
    have g_b9 := Nat.le_trans hF.size hb13
    replace Bn := Bn.new hN11
    replace Bk := Bk.new hN11
    replace hB := hB.new hN11
    replace hO := hO.new hN11
    replace hF := hF.trNew hN11
    refine fx_storeS sz26 rfl rfl rfl (fr.ev rfl) (fr.ev rfl) (msgE.all _) B12 (msgE.size _) (msgE.size _) fun w14 hO15 hBq => ?_
    replace Bn := Bn.only hO15 (by show ¬ bn = b9; omega)
    replace Bk := Bk.only hO15 (by show ¬ bk = b9; omega)
    replace hB := hB.only hO15 (by show ¬ b = b9; omega)
    replace hO := hO.only hO15 (Apart.ne1 ap_A_b9)
    replace hF := hF.loc hO15 (.inr g_b9)
    replace B12 := hBq
    clear hBq
    refine wpList_nil ?_
    refine fx_next ?_
    refine wp_seq ?_
    rcases Decidable.em ((l.getD k msg0).dst = node) with hdn | hdn
    · skip
      refine fxi_region ?_  -- region 4
      refine fxi_val (v := .pointer (some ⟨b9, 2, none⟩)) fr rfl rfl (by first | decide | simp) (x_fieldAddr fo26_2 rfl (fr.ev rfl) rfl) ?_
      clear fr a; intro a fr
      refine fxi_val (v := .int .i64 ((l.getD k msg0).dst)) fr rfl rfl (by first | decide | simp) (x_load1 pl3 rfl (fr.ev rfl) (B12.cell 2 rfl)) ?_
      clear fr a; intro a fr
      refine fxi_val (v := .int .i64 node) fr rfl rfl (by first | decide | simp) (x_load1 pl3 rfl (fr.ev rfl) (Bk.cell 0 rfl)) ?_
      clear fr a; intro a fr
      refine fxi_val (v := .bool true) fr rfl rfl (by first | decide | simp) (x_eql rfl (fr.ev rfl) (fr.ev rfl) (decide_eq_true hdn)) ?_
      clear fr a; intro a fr
      refine fxi_val (v := .bool true) fr rfl rfl (by first | decide | simp) (x_move rfl (fr.ev rfl)) ?_
      clear fr a; intro a fr
      refine fxi_val (v := .func (.yield y) #[] #[]) fr (fr.want rfl rfl rfl) rfl (by first | decide | simp) (x_move rfl (fr.ev rfl)) ?_
      clear fr a; intro a fr
      refine fxi_val (v := .agg (msgE.arr (l.getD k msg0))) fr (fr.want rfl rfl rfl) rfl (by first | decide | simp) (x_loadE (E := msgE) ag26 rfl rfl (fr.ev rfl) (B12.rangeE msgE)) ?_
      clear fr a; intro a fr
      refine fxi_yield (n := 8) fr (fr.want rfl rfl rfl) rfl (by decide) rfl (fr.ev rfl) (fr.ev rfl) (hY _ _ _ (AbidesFrom.new hJ hj hF) (sel_lt (by omega) hdn)) (fun w16 hy17 a fr => ?_) (fun w16 hy17 a fr => ?_)
      · skip
        skip
        obtain ⟨hj, hk⟩ := hy17
        replace Bn := Bn.only hk hS_bn
        replace Bk := Bk.only hk hS_bk
        replace hB := hB.only hk hS_b
        replace hO := hO.only hk hS_A
        refine fxi_val (v := .bool false) fr (fr.want rfl rfl rfl) rfl (by first | decide | simp) (x_not rfl (fr.ev rfl) rfl) ?_
        clear fr a; intro a fr
        refine fxi_val (v := .bool false) fr rfl rfl (by first | decide | simp) (x_pick_t rfl (fr.ev rfl) (fr.ev rfl)) ?_
        clear fr a; intro a fr
        refine wpListIn_nil ?_
        refine fx_next ?_
        refine fx_cond_f fr rfl ?_
        refine wp_skip ?_
        refine fx_blk ?_
        refine fx_next ?_
        refine wp_region_lit ?_  -- region 5
        refine fx_val (v := .int .i64 ((k + 1 : Nat) : Int)) fr rfl rfl (by first | decide | simp) (x_add rfl (fr.ev rfl) rfl (i64w (r := ((k + 1 : Nat) : Int)) (by omega) (by omega))) ?_
        clear fr a; intro a fr
        refine fx_val (v := .int .i64 ((k + 1 : Nat) : Int)) fr rfl rfl (by first | decide | simp) (x_move rfl (fr.ev rfl)) ?_
        clear fr a; intro a fr
        refine wpList_nil ?_
        refine fx_next ?_
        exact ⟨_, by omega, (k + 1), rfl, fr.sub ⟨rfl, rfl, rfl, rfl, rfl, rfl, trivial⟩, Bn, Bk, hB, hO, (by rw [sel_yes (by omega) hdn]; exact hj), by omega⟩
      · skip
        skip
        have hx := hy17
        refine fxi_val (v := .bool true) fr (fr.want rfl rfl rfl) rfl (by first | decide | simp) (x_not rfl (fr.ev rfl) rfl) ?_
        clear fr a; intro a fr
        refine fxi_val (v := .bool true) fr rfl rfl (by first | decide | simp) (x_pick_t rfl (fr.ev rfl) (fr.ev rfl)) ?_
        clear fr a; intro a fr
        refine wpListIn_nil ?_
        refine fx_next ?_
        refine fx_cond_t fr rfl ?_
        refine wp_exit ?_
        refine fx_xb (by decide) ?_
        refine fx_xt ?_
        refine fx_xt ?_
        refine fx_xx ?_
        refine fx_sn ?_
        refine fx_end fr [] [] rfl trivial rfl ?_
        exact ⟨⟨_, rfl⟩, .inr ⟨_, (by rw [← sel_yes (by omega) hdn]; exact sel_prefix), hx⟩⟩
    · skip
      refine fxi_region ?_  -- region 4
      refine fxi_val (v := .pointer (some ⟨b9, 2, none⟩)) fr rfl rfl (by first | decide | simp) (x_fieldAddr fo26_2 rfl (fr.ev rfl) rfl) ?_
      clear fr a; intro a fr
      refine fxi_val (v := .int .i64 ((l.getD k msg0).dst)) fr rfl rfl (by first | decide | simp) (x_load1 pl3 rfl (fr.ev rfl) (B12.cell 2 rfl)) ?_
      clear fr a; intro a fr
      refine fxi_val (v := .int .i64 node) fr rfl rfl (by first | decide | simp) (x_load1 pl3 rfl (fr.ev rfl) (Bk.cell 0 rfl)) ?_
      clear fr a; intro a fr
      refine fxi_val (v := .bool false) fr rfl rfl (by first | decide | simp) (x_eql rfl (fr.ev rfl) (fr.ev rfl) (decide_eq_false hdn)) ?_
      clear fr a; intro a fr
      refine fxi_val (v := .bool false) fr rfl rfl (by first | decide | simp) (x_move rfl (fr.ev rfl)) ?_
      clear fr a; intro a fr
      refine fxi_skip fr (fr.unwant rfl rfl rfl (by decide)) rfl (by first | decide | simp) ?_
      clear fr a; intro a fr
      refine fxi_skip fr (fr.unwant rfl rfl rfl (by decide)) rfl (by first | decide | simp) ?_
      clear fr a; intro a fr
      refine fxi_skip fr (fr.unwant rfl rfl rfl (by decide)) rfl (by first | decide | simp) ?_
      clear fr a; intro a fr
      refine fxi_skip fr (fr.unwant rfl rfl rfl (by decide)) rfl (by first | decide | simp) ?_
      clear fr a; intro a fr
      refine fxi_val (v := .bool false) fr rfl rfl (by first | decide | simp) (x_pick_f rfl (fr.ev rfl) rfl) ?_
      clear fr a; intro a fr
      refine wpListIn_nil ?_
      refine fx_next ?_
      refine fx_cond_f fr rfl ?_
      refine wp_skip ?_
      refine fx_blk ?_
      refine fx_next ?_
      refine wp_region_lit ?_  -- region 5
      refine fx_val (v := .int .i64 ((k + 1 : Nat) : Int)) fr rfl rfl (by first | decide | simp) (x_add rfl (fr.ev rfl) rfl (i64w (r := ((k + 1 : Nat) : Int)) (by omega) (by omega))) ?_
      clear fr a; intro a fr
      refine fx_val (v := .int .i64 ((k + 1 : Nat) : Int)) fr rfl rfl (by first | decide | simp) (x_move rfl (fr.ev rfl)) ?_
      clear fr a; intro a fr
      refine wpList_nil ?_
      refine fx_next ?_
      exact ⟨_, by omega, (k + 1), rfl, fr.sub ⟨rfl, rfl, rfl, rfl, rfl, rfl, trivial⟩, Bn, Bk, hB, hO, (by rw [sel_no (by omega) hdn]; exact AbidesFrom.new hJ hj hF), by omega⟩
  · skip
    have hc5 := of_decide_eq_false hc5
    refine wp_exit ?_
    refine fx_xt ?_
    refine fx_xt ?_
    refine fx_xx ?_
    refine fx_sn ?_
    refine fx_end fr [] [] rfl trivial rfl ?_
    exact ⟨⟨_, rfl⟩, .inl ⟨_, (by rw [show k = l.length by omega]; exact sel_end), hj⟩⟩
theorem NetAt.turn {B : Nat} {w w' : World} {b : Nat} {A : Option Addr} {cap : Nat} {most : Int} {l : List Msg} (h : NetAt w b A cap most l) (k : Turn B w w') : NetAt w' b A cap most l := ⟨h.head.turn k, h.own.turn k, h.ap⟩
set_option maxRecDepth 100000 in
set_option maxHeartbeats 4000000 in
theorem iter_c (node : Int) {w : World} {b : Nat} : Calls Try.prog 33 #[.pointer (some ⟨b, 0, none⟩), .int .i64 node] w (Ret fun v w' => ∃ bn bk, v = .func (.func 35) #[] #[.pointer (some ⟨bn, 0, none⟩), .pointer (some ⟨bk, 0, none⟩)] ∧ Blk w' bn 35 #[.pointer (some ⟨b, 0, none⟩)] ∧ Blk w' bk 3 #[.int .i64 node] ∧ w.heap.size ≤ bn ∧ w.heap.size ≤ bk ∧ bn ≠ bk ∧ New w w') := by
  have hF := Only.refl (fun _ => False) w
  refine fx_enter Try.func33 rfl (N := (6, [])) (T := [(0, .pointer (some ⟨b, 0, none⟩)), (1, .int .i64 node)]) rfl (show 2 ≤ 6 by decide) ⟨rfl, rfl, trivial⟩ fun a fr => ?_
  refine wp_seq ?_
  refine wp_region_lit ?_  -- region 0
  refine fx_new fr rfl rfl (by first | decide | simp) (x_box (cs := #[.pointer (some ⟨b, 0, none⟩)]) rfl (fr.ev rfl) rfl) ?_
  clear fr a
  intro b1 w2 hN3 B4 hb5 a fr
  have g_b1 := Nat.le_trans hF.size hb5
  replace hF := hF.trNew hN3
  refine fx_new fr rfl rfl (by first | decide | simp) (x_box (cs := #[.int .i64 node]) rfl (fr.ev rfl) rfl) ?_
  clear fr a
  intro b6 w7 hN8 B9 hb10 a fr
  have ne_b1_b6 : ¬ b1 = b6 := Nat.ne_of_lt (Nat.lt_of_lt_of_le B4.lt hb10)
  have g_b6 := Nat.le_trans hF.size hb10
  replace B4 := B4.new hN8
  replace hF := hF.trNew hN8
  refine fx_val (v := .nilFunc) fr rfl rfl (by first | decide | simp) (x_assign rfl rfl) ?_
  clear fr a; intro a fr
  refine wpList_nil ?_
  refine fx_next ?_
  refine wp_seq ?_
  refine wp_region_lit ?_  -- region 1
  refine fx_val (v := .func (.func 35) #[] #[.pointer (some ⟨b1, 0, none⟩), .pointer (some ⟨b6, 0, none⟩)]) fr rfl rfl (by first | decide | simp) (x_makeFunc (vs := [.pointer (some ⟨b1, 0, none⟩), .pointer (some ⟨b6, 0, none⟩)]) rfl ⟨(fr.ev rfl), (fr.ev rfl), trivial⟩) ?_
  clear fr a; intro a fr
  refine fx_val (v := .func (.func 35) #[] #[.pointer (some ⟨b1, 0, none⟩), .pointer (some ⟨b6, 0, none⟩)]) fr rfl rfl (by first | decide | simp) (x_assign rfl (fr.ev rfl)) ?_
  clear fr a; intro a fr
  refine wpList_nil ?_
  refine fx_next ?_
  refine wp_ret ?_
  refine fx_ret fr [.tmp 4] [.func (.func 35) #[] #[.pointer (some ⟨b1, 0, none⟩), .pointer (some ⟨b6, 0, none⟩)]] rfl ⟨rfl, trivial⟩ rfl ?_
  exact ⟨_, rfl, b1, b6, rfl, B4, B9, (g_b1), (g_b6), ne_b1_b6, hF⟩
set_option maxRecDepth 100000 in
set_option maxHeartbeats 4000000 in
theorem to_c (node : Int) {w : World} {b : Nat} {A : Option Addr} {cap : Nat} {most : Int} {l : List Msg} (h : NetAt w b A cap most l) (hm : most ≠ 0) (hl : l.length ≤ 100000) : Calls Try.prog 25 #[.pointer (some ⟨b, 0, none⟩), .int .i64 node] w (Ret fun v w' => ∃ A' cap', v = .slice A' (selAll node l).length cap' ∧ Own msgE w' A' cap' (selAll node l) ∧ (∀ g, inA A' g → w.heap.size ≤ g) ∧ New w w') := by
  obtain ⟨hB, hO, ap_A_b⟩ := h
  have hF := Only.refl (fun _ => False) w
  refine fx_enterM Try.func25 rfl (N := (16, [])) (T := [(0, .pointer (some ⟨b, 0, none⟩)), (1, .int .i64 node)]) rfl (show 2 ≤ 16 by decide) ⟨rfl, rfl, trivial⟩ fun a fr => ?_
  refine wp_seq ?_
  refine wp_region_lit ?_  -- region 0
  refine fx_val (v := .slice none 0 0) fr rfl rfl (by first | decide | simp) (x_assign rfl rfl) ?_
  clear fr a; intro a fr
  refine wpList_nil ?_
  refine fx_next ?_
  refine wp_seq ?_
  refine wp_region_lit ?_  -- region 1
  refine fx_new fr rfl rfl (by first | decide | simp) (x_alloc (z := .slice none 0 0) (cs := #[.slice none 0 0]) rfl (by kernel_rfl) rfl) ?_
  clear fr a
  intro b1 w2 hN3 B4 hb5 a fr
  have ne_b_b1 : ¬ b = b1 := Nat.ne_of_lt (Nat.lt_of_lt_of_le hB.lt hb5)
  have ap_A_b1 : Apart A b1 := hO.apart hb5
  have g_b1 := Nat.le_trans hF.size hb5
  replace hB := hB.new hN3
  replace hO := hO.new hN3
  replace hF := hF.trNew hN3
  refine wpList_nil ?_
  refine fx_next ?_
  refine wp_seq ?_
  refine wp_seq ?_
  refine wp_region_lit ?_  -- region 2
  refine fx_val (v := .pointer (some ⟨b, 0, none⟩)) fr rfl rfl (by first | decide | simp) (x_move rfl (fr.ev rfl)) ?_
  clear fr a; intro a fr
  refine fx_val (v := .int .i64 node) fr rfl rfl (by first | decide | simp) (x_move rfl (fr.ev rfl)) ?_
  clear fr a; intro a fr
  refine fx_call fr rfl rfl (by first | decide | simp) (x_call (vs := [.pointer (some ⟨b, 0, none⟩), .int .i64 node]) rfl rfl ⟨(fr.ev rfl), (fr.ev rfl), trivial⟩ Try.func33 nm33 rfl) (iter_c node) ?_
  clear fr a
  rintro v w6 ⟨bn, bk, rfl, Bn, Bk, hbn, hbk, hnk, hN7⟩ a fr
  have ne_b_bn : ¬ b = bn := Nat.ne_of_lt (Nat.lt_of_lt_of_le hB.lt hbn)
  have ap_A_bn : Apart A bn := hO.apart hbn
  have ne_b1_bn : ¬ b1 = bn := Nat.ne_of_lt (Nat.lt_of_lt_of_le B4.lt hbn)
  have g_bn := Nat.le_trans hF.size hbn
  have ne_b_bk : ¬ b = bk := Nat.ne_of_lt (Nat.lt_of_lt_of_le hB.lt hbk)
  have ap_A_bk : Apart A bk := hO.apart hbk
  have ne_b1_bk : ¬ b1 = bk := Nat.ne_of_lt (Nat.lt_of_lt_of_le B4.lt hbk)
  have g_bk := Nat.le_trans hF.size hbk
  replace hB := hB.new hN7
  replace hO := hO.new hN7
  replace B4 := B4.new hN7
  replace hF := hF.trNew hN7
  refine wpList_nil ?_
  refine fx_next ?_
  refine wp_block ?_
  refine fx_collect (E := msgE) (xs := selAll node l) (bo := b1) (z := .agg (msgE.arr msg0)) el38 ag26 sz26 sz38 pl38 (by kernel_rfl) (msgE.size _) (by decide) fr rfl rfl (enters_of Try.func35 nm35 rfl) (all_stops node ⟨hB, hO, ap_A_b⟩ hm hl Bn Bk (S := fun k => k = b1 ∨ w6.heap.size ≤ k) (by have := Bn.lt; show ¬ (bn = b1 ∨ w6.heap.size ≤ bn); omega) (by have := Bk.lt; show ¬ (bk = b1 ∨ w6.heap.size ≤ bk); omega) (by have := hB.lt; show ¬ (b = b1 ∨ w6.heap.size ≤ b); omega) (fun g hg => by have h1 := hO.lt hg; have h2 : g ≠ b1 := fun e => ap_A_b1 (e ▸ hg); show ¬ (g = b1 ∨ w6.heap.size ≤ g); omega)) B4 (by have := selAll_le (node := node) (l := l); omega) (by have := selAll_le (node := node) (l := l); unfold maxLen; omega) (by decide) (by decide) rfl rfl rfl rfl rfl rfl rfl rfl rfl rfl rfl rfl rfl rfl rfl rfl rfl rfl rfl rfl rfl ?_
  clear fr a
  intro D A1 c1 w1 hD hD_D Bo1 O1 hA1 hC a fr
  have g_D := Nat.le_trans hF.size hD
  have ap_A1_b : Apart A1 b := new_apart hA1 hB.lt
  have ap2_A_A1 : Apart2 A A1 := (new_apart2 hA1 fun _ hg => hO.lt hg).symm
  have ap_A1_b1 : Apart A1 b1 := new_apart hA1 B4.lt
  have ap_A1_bn : Apart A1 bn := new_apart hA1 Bn.lt
  have ap_A1_bk : Apart A1 bk := new_apart hA1 Bk.lt
  have gA_A1 := gA_new hF hA1
  replace hB := hB.only hC (by show ¬ b = b1; omega)
  replace hO := hO.only hC (Apart.ne1 ap_A_b1)
  replace Bn := Bn.only hC (by show ¬ bn = b1; omega)
  replace Bk := Bk.only hC (by show ¬ bk = b1; omega)
  replace hF := hF.loc hC (.inr g_b1)
  refine fx_blk ?_
  refine fx_next ?_
  refine wp_seq ?_
  refine wp_region_lit ?_  -- region 5
  refine fx_val (v := .slice A1 ((selAll node l).length) c1) fr rfl rfl (by first | decide | simp) (x_load1 pl38 rfl (fr.ev rfl) (Bo1.cell 0 rfl)) ?_
  clear fr a; intro a fr
  refine fx_val (v := .slice A1 ((selAll node l).length) c1) fr rfl rfl (by first | decide | simp) (x_assign rfl (fr.ev rfl)) ?_
  clear fr a; intro a fr
  refine wpList_nil ?_
  refine fx_next ?_
  refine wp_ret ?_
  refine fx_retM1 fr g_D hD_D [.tmp 4] [.slice A1 ((selAll node l).length) c1] rfl rfl ?_
  intro wE hT
  replace hB := hB.turn hT
  replace hO := hO.turn hT
  replace Bn := Bn.turn hT
  replace Bk := Bk.turn hT
  replace Bo1 := Bo1.turn hT
  replace O1 := O1.turn hT
  replace hF := hF.turn hT (Nat.le_refl _)
  refine ⟨⟨rfl, trivial⟩, ?_⟩
  exact ⟨_, rfl, _, _, rfl, O1, fun g hg => (gA_A1 g hg).resolve_left id, hF⟩
end Go.Proofs.Ytdpkeabmfhnfiaa
