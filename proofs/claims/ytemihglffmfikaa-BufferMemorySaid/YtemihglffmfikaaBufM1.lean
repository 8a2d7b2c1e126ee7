/-
  BufferMemory, at one width. Printed by gen_m.py.
-/
import Derived.Test.YtemihglffmfikaaBufS
import Derived.Test.YtemihglffmfikaaBufH
namespace Go.Proofs.Ytemihglffmfikaa
open Go.RowKit

set_option maxRecDepth 100000 in
set_option maxHeartbeats 4000000 in
theorem memory1_c {w : World} {P M : Option Addr} {cp cm : Nat} {la : List BAct} {lm : List By} (hV : View actE w P cp la) (hM : View byE w M cm lm) (addr width : Int) (ha : 0 ≤ addr ∧ addr < 4294967296) (hq : width = 1) : Calls Try.prog 6 #[.slice P la.length cp, .slice M lm.length cm, .int .u32 addr, .int .i64 width] w (Ret fun v w' => v = .bool true ∧ New w w') := by
  have hVl := hV.len
  have hMl := hM.len
  unfold maxLen at hVl hMl
  have hF := Only.refl (fun _ => False) w
  refine fx_enter Try.func6 rfl (N := (247, [])) (T := [(0, .slice P la.length cp), (1, .slice M lm.length cm), (2, .int .u32 addr), (3, .int .i64 width)]) rfl (show 4 ≤ 247 by decide) ⟨rfl, rfl, rfl, rfl, trivial⟩ fun a fr => ?_
  refine wp_seq ?_
  refine wp_region_lit ?_  -- region 0
  refine fx_val (v := .bool false) fr rfl rfl (by first | decide | simp) (x_assign rfl rfl) ?_
  clear fr a; intro a fr
  refine wpList_nil ?_
  refine fx_next ?_
  refine wp_seq ?_
  refine wp_seq ?_
  rcases Decidable.em (100 < ((la.length : Nat) : Int)) with hA | hA
  rotate_left
  rcases Decidable.em (64 ≤ addr) with hB | hB
  rotate_left
  · skip
    refine wp_region_lit ?_  -- region 1
    refine fx_val (v := .slice P la.length cp) fr rfl rfl (by first | decide | simp) (x_move rfl (fr.ev rfl)) ?_
    clear fr a; intro a fr
    refine fx_val (v := .int .i64 ((la.length : Nat) : Int)) fr rfl rfl (by first | decide | simp) (x_len Try.underlying40 rfl (fr.ev rfl)) ?_
    clear fr a; intro a fr
    refine fx_val (v := .bool false) fr rfl rfl (by first | decide | simp) (x_gtr rfl (fr.ev rfl) rfl (decide_eq_false hA)) ?_
    clear fr a; intro a fr
    refine fx_val (v := .bool false) fr rfl rfl (by first | decide | simp) (x_move rfl (fr.ev rfl)) ?_
    clear fr a; intro a fr
    refine fx_val (v := .int .u32 addr) fr (fr.want rfl rfl rfl) rfl (by first | decide | simp) (x_move rfl (fr.ev rfl)) ?_
    clear fr a; intro a fr
    refine fx_val (v := .bool false) fr (fr.want rfl rfl rfl) rfl (by first | decide | simp) (x_geq rfl (fr.ev rfl) rfl (decide_eq_false hB)) ?_
    clear fr a; intro a fr
    refine fx_val (v := .bool false) fr rfl rfl (by first | decide | simp) (x_pick_f rfl (fr.ev rfl) (fr.ev rfl)) ?_
    clear fr a; intro a fr
    refine fx_val (v := .bool false) fr rfl rfl (by first | decide | simp) (x_move rfl (fr.ev rfl)) ?_
    clear fr a; intro a fr
    refine fx_val (v := .int .i64 width) fr (fr.want rfl rfl rfl) rfl (by first | decide | simp) (x_move rfl (fr.ev rfl)) ?_
    clear fr a; intro a fr
    refine fx_val (v := .bool false) fr (fr.want rfl rfl rfl) rfl (by first | decide | simp) (x_neq rfl (fr.ev rfl) rfl (decide_eq_false (by omega))) ?_
    clear fr a; intro a fr
    refine fx_val (v := .bool false) fr (fr.want rfl rfl rfl) rfl (by first | decide | simp) (x_move rfl (fr.ev rfl)) ?_
    clear fr a; intro a fr
    refine fx_skip fr (fr.unwant rfl rfl rfl (by decide)) rfl (by first | decide | simp) ?_
    clear fr a; intro a fr
    refine fx_skip fr (fr.unwant rfl rfl rfl (by decide)) rfl (by first | decide | simp) ?_
    clear fr a; intro a fr
    refine fx_val (v := .bool false) fr (fr.want rfl rfl rfl) rfl (by first | decide | simp) (x_pick_f rfl (fr.ev rfl) rfl) ?_
    clear fr a; intro a fr
    refine fx_val (v := .bool false) fr (fr.want rfl rfl rfl) rfl (by first | decide | simp) (x_move rfl (fr.ev rfl)) ?_
    clear fr a; intro a fr
    refine fx_skip fr (fr.unwant rfl rfl rfl (by decide)) rfl (by first | decide | simp) ?_
    clear fr a; intro a fr
    refine fx_skip fr (fr.unwant rfl rfl rfl (by decide)) rfl (by first | decide | simp) ?_
    clear fr a; intro a fr
    refine fx_val (v := .bool false) fr (fr.want rfl rfl rfl) rfl (by first | decide | simp) (x_pick_f rfl (fr.ev rfl) rfl) ?_
    clear fr a; intro a fr
    refine fx_val (v := .bool false) fr rfl rfl (by first | decide | simp) (x_pick_f rfl (fr.ev rfl) (fr.ev rfl)) ?_
    clear fr a; intro a fr
    refine fx_val (v := .bool false) fr rfl rfl (by first | decide | simp) (x_move rfl (fr.ev rfl)) ?_
    clear fr a; intro a fr
    refine fx_val (v := .int .u32 addr) fr (fr.want rfl rfl rfl) rfl (by first | decide | simp) (x_move rfl (fr.ev rfl)) ?_
    clear fr a; intro a fr
    refine fx_val (v := .int .i64 width) fr (fr.want rfl rfl rfl) rfl (by first | decide | simp) (x_move rfl (fr.ev rfl)) ?_
    clear fr a; intro a fr
    refine fx_val (v := .int .u32 1) fr (fr.want rfl rfl rfl) rfl (by first | decide | simp) (x_convert Try.underlying3 Try.underlying22 rfl (fr.ev rfl) (u32w (r := 1) (by omega) (by omega))) ?_
    clear fr a; intro a fr
    refine fx_val (v := .int .u32 (addr % 1)) fr (fr.want rfl rfl rfl) rfl (by first | decide | simp) (x_rem rfl (fr.ev rfl) (fr.ev rfl) (by omega) (r := addr % 1) (by first | exact rem_nn (by omega) | (rw [show 1 = 1 by omega]; exact rem_nn (by omega)))) ?_
    clear fr a; intro a fr
    refine fx_val (v := .bool (decide (addr % 1 ≠ 0))) fr (fr.want rfl rfl rfl) rfl (by first | decide | simp) (x_neq rfl (fr.ev rfl) rfl rfl) ?_
    clear fr a; intro a fr
    refine fx_val (v := .bool (decide (addr % 1 ≠ 0))) fr rfl rfl (by first | decide | simp) (x_pick_f rfl (fr.ev rfl) (fr.ev rfl)) ?_
    clear fr a; intro a fr
    refine wpList_nil ?_
    refine fx_next ?_
    refine fx_cond fr rfl (fun hc1 => ?_) (fun hc1 => ?_)
    · skip
      have hc1 := of_decide_eq_true hc1
      refine wp_seq ?_
      refine wp_region_lit ?_  -- region 2
      refine fx_call fr rfl rfl (by first | decide | simp) (x_call (vs := []) rfl rfl trivial Try.func15 nm15 rfl) (works_c _) ?_
      clear fr a
      rintro v w2 ⟨rfl, hN3⟩ a fr
      replace hV := hV.new hN3
      replace hM := hM.new hN3
      replace hF := hF.trNew hN3
      refine fx_val (v := .bool true) fr rfl rfl (by first | decide | simp) (x_assign rfl (fr.ev rfl)) ?_
      clear fr a; intro a fr
      refine wpList_nil ?_
      refine fx_next ?_
      refine wp_ret ?_
      refine fx_rt ?_
      refine fx_ret fr [.tmp 8] [.bool true] rfl ⟨rfl, trivial⟩ rfl ?_
      exact ⟨_, rfl, rfl, hF⟩
    · skip
      have hc1 := of_decide_eq_false hc1
      refine wp_skip ?_
      refine fx_next ?_
      refine wp_seq ?_
      refine wp_region_lit ?_  -- region 3
      refine fx_call fr rfl rfl (by first | decide | simp) (x_call (vs := []) rfl rfl trivial Try.func9 nm9 rfl) (new_c _) ?_
      clear fr a
      rintro v w7 ⟨b4, rfl, H5, hb6, hN8⟩ a fr
      have ap_P_b4 : Apart P b4 := hV.apart hb6
      have ap_M_b4 : Apart M b4 := hM.apart hb6
      have g_b4 := Nat.le_trans hF.size hb6
      replace hV := hV.new hN8
      replace hM := hM.new hN8
      replace hF := hF.trNew hN8
      refine fx_val (v := .pointer (some ⟨b4, 0, none⟩)) fr rfl rfl (by first | decide | simp) (x_assign rfl (fr.ev rfl)) ?_
      clear fr a; intro a fr
      refine wpList_nil ?_
      refine fx_next ?_
      refine wp_seq ?_
      refine wp_seq ?_
      refine wp_region_lit ?_  -- region 4
      refine fx_val (v := .int .i64 0) fr rfl rfl (by first | decide | simp) (x_assign rfl rfl) ?_
      clear fr a; intro a fr
      refine wpList_nil ?_
      refine fx_next ?_
      refine wp_block ?_
      refine fx_loop (fun nM a wL => ∃ l : List VSt, ∃ i : Nat, nM = la.length - i ∧ Fr (247, []) [(0, .slice P la.length cp), (1, .slice M lm.length cm), (2, .int .u32 addr), (3, .int .i64 width), (8, .bool false), (9, .pointer (some ⟨b4, 0, none⟩)), (10, .int .i64 ((i : Nat) : Int))] a ∧ Only (fun _ => False) w wL ∧ View actE wL P cp la ∧ View byE wL M cm lm ∧ BufAt wL b4 l ∧ (∀ s ∈ l, s.1.addr < 64) ∧ i ≤ la.length) (n0 := _) ⟨[], 0, rfl, fr.sub ⟨rfl, rfl, rfl, rfl, rfl, rfl, rfl, trivial⟩, hF, hV, hM, H5, (fun s h => by simp at h), by omega⟩ ?_
      rintro n10 a w9 ⟨l, i, rfl, fr, hF, hV, hM, H, hl, hi⟩
      refine wp_seq ?_
      refine wp_seq ?_
      refine wp_region_lit ?_  -- region 5
      refine fx_val (v := .int .i64 ((i : Nat) : Int)) fr rfl rfl (by first | decide | simp) (x_move rfl (fr.ev rfl)) ?_
      clear fr a; intro a fr
      refine fx_val (v := .slice P la.length cp) fr rfl rfl (by first | decide | simp) (x_move rfl (fr.ev rfl)) ?_
      clear fr a; intro a fr
      refine fx_val (v := .int .i64 ((la.length : Nat) : Int)) fr rfl rfl (by first | decide | simp) (x_len Try.underlying40 rfl (fr.ev rfl)) ?_
      clear fr a; intro a fr
      refine fx_val (v := .bool (decide (((i : Nat) : Int) < ((la.length : Nat) : Int)))) fr rfl rfl (by first | decide | simp) (x_lss rfl (fr.ev rfl) (fr.ev rfl) rfl) ?_
      clear fr a; intro a fr
      refine wpList_nil ?_
      refine fx_next ?_
      refine fx_cond fr rfl (fun hc11 => ?_) (fun hc11 => ?_)
      · skip
        have hc11 := of_decide_eq_true hc11
        refine wp_skip ?_
        refine fx_next ?_
        refine wp_seq ?_
        refine wp_block ?_
        refine wp_seq ?_
        refine wp_seq ?_
        refine wp_region_lit ?_  -- region 7
        refine fx_val (v := .slice P la.length cp) fr rfl rfl (by first | decide | simp) (x_move rfl (fr.ev rfl)) ?_
        clear fr a; intro a fr
        refine fx_val (v := .int .i64 ((i : Nat) : Int)) fr rfl rfl (by first | decide | simp) (x_move rfl (fr.ev rfl)) ?_
        clear fr a; intro a fr
        obtain ⟨g12, o13, hA14⟩ := (hV).some_ (by omega)
        refine fx_val (v := .pointer (some ⟨g12, o13 + i * 4, none⟩)) fr rfl rfl (by first | decide | simp) (x_indexV Try.underlying40 sz48 rfl (fr.ev rfl) hA14 (fr.ev rfl) (by omega) rfl) ?_
        clear fr a; intro a fr
        refine fx_val (v := .pointer (some ⟨g12, o13 + i * 4 + 1, none⟩)) fr rfl rfl (by first | decide | simp) (x_fieldAddr fo48_1 rfl (fr.ev rfl) rfl) ?_
        clear fr a; intro a fr
        refine fx_val (v := .pointer (some ⟨g12, o13 + i * 4 + 1, none⟩)) fr rfl rfl (by first | decide | simp) (x_fieldAddr fo24_0 rfl (fr.ev rfl) rfl) ?_
        clear fr a; intro a fr
        refine fx_val (v := .int .u32 ((la.getD i act0).st.addr)) fr rfl rfl (by first | decide | simp) (x_load1 pl22 rfl (fr.ev rfl) (range_cell ((hV).elem hA14 i act0 (by omega)) 1 rfl rfl)) ?_
        clear fr a; intro a fr
        refine fx_val (v := .bool (decide (64 ≤ (la.getD i act0).st.addr))) fr rfl rfl (by first | decide | simp) (x_geq rfl (fr.ev rfl) rfl rfl) ?_
        clear fr a; intro a fr
        refine wpList_nil ?_
        refine fx_next ?_
        refine fx_cond fr rfl (fun hc15 => ?_) (fun hc15 => ?_)
        · skip
          have hc15 := of_decide_eq_true hc15
          refine wp_seq ?_
          refine wp_region_lit ?_  -- region 8
          refine fx_call fr rfl rfl (by first | decide | simp) (x_call (vs := []) rfl rfl trivial Try.func15 nm15 rfl) (works_c _) ?_
          clear fr a
          rintro v w16 ⟨rfl, hN17⟩ a fr
          replace hV := hV.new hN17
          replace hM := hM.new hN17
          replace H := H.new hN17
          replace hF := hF.trNew hN17
          refine fx_val (v := .bool true) fr rfl rfl (by first | decide | simp) (x_assign rfl (fr.ev rfl)) ?_
          clear fr a; intro a fr
          refine wpList_nil ?_
          refine fx_next ?_
          refine wp_ret ?_
          refine fx_rt ?_
          refine fx_rb ?_
          refine fx_rt ?_
          refine fx_rt ?_
          refine fx_rb ?_
          refine fx_rt ?_
          refine fx_ret fr [.tmp 8] [.bool true] rfl ⟨rfl, trivial⟩ rfl ?_
          exact ⟨_, rfl, rfl, hF⟩
        · skip
          have hc15 := of_decide_eq_false hc15
          refine wp_skip ?_
          refine fx_next ?_
          refine wp_seq ?_
          refine wp_region_lit ?_  -- region 9
          refine fx_val (v := .slice P la.length cp) fr rfl rfl (by first | decide | simp) (x_move rfl (fr.ev rfl)) ?_
          clear fr a; intro a fr
          refine fx_val (v := .int .i64 ((i : Nat) : Int)) fr rfl rfl (by first | decide | simp) (x_move rfl (fr.ev rfl)) ?_
          clear fr a; intro a fr
          refine fx_val (v := .pointer (some ⟨g12, o13 + i * 4, none⟩)) fr rfl rfl (by first | decide | simp) (x_indexV Try.underlying40 sz48 rfl (fr.ev rfl) hA14 (fr.ev rfl) (by omega) rfl) ?_
          clear fr a; intro a fr
          refine fx_val (v := .pointer (some ⟨g12, o13 + i * 4, none⟩)) fr rfl rfl (by first | decide | simp) (x_fieldAddr fo48_0 rfl (fr.ev rfl) rfl) ?_
          clear fr a; intro a fr
          refine fx_val (v := .int .i64 ((la.getD i act0).what)) fr rfl rfl (by first | decide | simp) (x_load1 pl3 rfl (fr.ev rfl) (range_cell ((hV).elem hA14 i act0 (by omega)) 0 rfl rfl)) ?_
          clear fr a; intro a fr
          refine fx_val (v := .bool (decide ((la.getD i act0).what ≠ 0))) fr rfl rfl (by first | decide | simp) (x_neq rfl (fr.ev rfl) rfl rfl) ?_
          clear fr a; intro a fr
          refine wpList_nil ?_
          refine fx_next ?_
          refine fx_cond fr rfl (fun hc18 => ?_) (fun hc18 => ?_)
          · skip
            have hc18 := of_decide_eq_true hc18
            refine wp_region_lit ?_  -- region 10
            refine fx_val (v := .pointer (some ⟨b4, 0, none⟩)) fr rfl rfl (by first | decide | simp) (x_move rfl (fr.ev rfl)) ?_
            clear fr a; intro a fr
            refine fx_call fr rfl rfl (by first | decide | simp) (x_call (vs := [.pointer (some ⟨b4, 0, none⟩)]) rfl rfl ⟨(fr.ev rfl), trivial⟩ Try.func18 nm18 rfl) (pop_c H) ?_
            clear fr a
            rintro v w20 ⟨rfl, H19, hN21⟩ a fr
            replace hV := hV.only hN21 (Apart.ne1 ap_P_b4)
            replace hM := hM.only hN21 (Apart.ne1 ap_M_b4)
            replace hF := hF.loc hN21 (.inr g_b4)
            clear H
            refine wpList_nil ?_
            refine fx_blk ?_
            refine fx_next ?_
            refine wp_region_lit ?_  -- region 6
            refine fx_val (v := .int .i64 ((i : Nat) : Int)) fr rfl rfl (by first | decide | simp) (x_move rfl (fr.ev rfl)) ?_
            clear fr a; intro a fr
            refine fx_val (v := .int .i64 ((i + 1 : Nat) : Int)) fr rfl rfl (by first | decide | simp) (x_add rfl (fr.ev rfl) rfl (i64w (r := ((i + 1 : Nat) : Int)) (by omega) (by omega))) ?_
            clear fr a; intro a fr
            refine fx_val (v := .int .i64 ((i + 1 : Nat) : Int)) fr rfl rfl (by first | decide | simp) (x_assign rfl (fr.ev rfl)) ?_
            clear fr a; intro a fr
            refine wpList_nil ?_
            refine fx_next ?_
            exact ⟨_, by omega, l.tail, (i + 1), rfl, fr.sub ⟨rfl, rfl, rfl, rfl, rfl, rfl, rfl, trivial⟩, hF, hV, hM, H19, (tail_64 hl), by omega⟩
          · skip
            have hc18 := of_decide_eq_false hc18
            refine wp_region_lit ?_  -- region 11
            refine fx_val (v := .pointer (some ⟨b4, 0, none⟩)) fr rfl rfl (by first | decide | simp) (x_move rfl (fr.ev rfl)) ?_
            clear fr a; intro a fr
            refine fx_val (v := .slice P la.length cp) fr rfl rfl (by first | decide | simp) (x_move rfl (fr.ev rfl)) ?_
            clear fr a; intro a fr
            refine fx_val (v := .int .i64 ((i : Nat) : Int)) fr rfl rfl (by first | decide | simp) (x_move rfl (fr.ev rfl)) ?_
            clear fr a; intro a fr
            refine fx_val (v := .pointer (some ⟨g12, o13 + i * 4, none⟩)) fr rfl rfl (by first | decide | simp) (x_indexV Try.underlying40 sz48 rfl (fr.ev rfl) hA14 (fr.ev rfl) (by omega) rfl) ?_
            clear fr a; intro a fr
            refine fx_val (v := .pointer (some ⟨g12, o13 + i * 4 + 1, none⟩)) fr rfl rfl (by first | decide | simp) (x_fieldAddr fo48_1 rfl (fr.ev rfl) rfl) ?_
            clear fr a; intro a fr
            refine fx_val (v := .agg (stE.arr ((la.getD i act0).st))) fr rfl rfl (by first | decide | simp) (x_loadE (E := stE) ag24 rfl rfl (fr.ev rfl) (range_sub ((hV).elem hA14 i act0 (by omega)) 1 3 rfl rfl)) ?_
            clear fr a; intro a fr
            refine fx_call fr rfl rfl (by first | decide | simp) (x_call (vs := [.pointer (some ⟨b4, 0, none⟩), .agg (stE.arr ((la.getD i act0).st))]) rfl rfl ⟨(fr.ev rfl), (fr.ev rfl), trivial⟩ Try.func10 nm10 rfl) (push_c ((la.getD i act0).st) H) ?_
            clear fr a
            rintro v w23 ⟨rfl, H22, hN24⟩ a fr
            replace hV := hV.only hN24 (Apart.ne1 ap_P_b4)
            replace hM := hM.only hN24 (Apart.ne1 ap_M_b4)
            replace hF := hF.loc hN24 (.inr g_b4)
            clear H
            refine wpList_nil ?_
            refine fx_blk ?_
            refine fx_next ?_
            refine wp_region_lit ?_  -- region 6
            refine fx_val (v := .int .i64 ((i : Nat) : Int)) fr rfl rfl (by first | decide | simp) (x_move rfl (fr.ev rfl)) ?_
            clear fr a; intro a fr
            refine fx_val (v := .int .i64 ((i + 1 : Nat) : Int)) fr rfl rfl (by first | decide | simp) (x_add rfl (fr.ev rfl) rfl (i64w (r := ((i + 1 : Nat) : Int)) (by omega) (by omega))) ?_
            clear fr a; intro a fr
            refine fx_val (v := .int .i64 ((i + 1 : Nat) : Int)) fr rfl rfl (by first | decide | simp) (x_assign rfl (fr.ev rfl)) ?_
            clear fr a; intro a fr
            refine wpList_nil ?_
            refine fx_next ?_
            exact ⟨_, by omega, (pushL l ((la.getD i act0).st)), (i + 1), rfl, fr.sub ⟨rfl, rfl, rfl, rfl, rfl, rfl, rfl, trivial⟩, hF, hV, hM, H22, (push_64 hl (by omega)), by omega⟩
      · skip
        have hc11 := of_decide_eq_false hc11
        refine wp_exit ?_
        refine fx_xt ?_
        refine fx_xt ?_
        refine fx_xx ?_
        refine fx_next ?_
        refine wp_seq ?_
        refine wp_region_lit ?_  -- region 12
        refine fx_new fr rfl rfl (by first | decide | simp) (x_alloc (z := .agg (#[.int .u8 0, .int .u8 0, .int .u8 0, .int .u8 0, .int .u8 0, .int .u8 0, .int .u8 0, .int .u8 0, .int .u8 0, .int .u8 0, .int .u8 0, .int .u8 0, .int .u8 0, .int .u8 0, .int .u8 0, .int .u8 0, .int .u8 0, .int .u8 0, .int .u8 0, .int .u8 0, .int .u8 0, .int .u8 0, .int .u8 0, .int .u8 0, .int .u8 0, .int .u8 0, .int .u8 0, .int .u8 0, .int .u8 0, .int .u8 0, .int .u8 0, .int .u8 0, .int .u8 0, .int .u8 0, .int .u8 0, .int .u8 0, .int .u8 0, .int .u8 0, .int .u8 0, .int .u8 0, .int .u8 0, .int .u8 0, .int .u8 0, .int .u8 0, .int .u8 0, .int .u8 0, .int .u8 0, .int .u8 0, .int .u8 0, .int .u8 0, .int .u8 0, .int .u8 0, .int .u8 0, .int .u8 0, .int .u8 0, .int .u8 0, .int .u8 0, .int .u8 0, .int .u8 0, .int .u8 0, .int .u8 0, .int .u8 0, .int .u8 0, .int .u8 0, .int .u8 0, .int .u8 0, .int .u8 0, .int .u8 0])) (cs := b68E.arr z68) rfl (by kernel_rfl) rfl) ?_
        clear fr a
        intro b25 w26 hN27 B28 hb29 a fr
        have ap_P_b25 : Apart P b25 := hV.apart hb29
        have ap_M_b25 : Apart M b25 := hM.apart hb29
        have ne_b4_b25 : NE b4 b25 := NE.mk (Nat.lt_of_lt_of_le H.lt hb29)
        have g_b25 := Nat.le_trans hF.size hb29
        replace hV := hV.new hN27
        replace hM := hM.new hN27
        replace H := H.new hN27
        replace hF := hF.trNew hN27
        refine fx_new fr rfl rfl (by first | decide | simp) (x_alloc (z := .agg (#[.int .u8 0, .int .u8 0, .int .u8 0, .int .u8 0, .int .u8 0, .int .u8 0, .int .u8 0, .int .u8 0, .int .u8 0, .int .u8 0, .int .u8 0, .int .u8 0, .int .u8 0, .int .u8 0, .int .u8 0, .int .u8 0, .int .u8 0, .int .u8 0, .int .u8 0, .int .u8 0, .int .u8 0, .int .u8 0, .int .u8 0, .int .u8 0, .int .u8 0, .int .u8 0, .int .u8 0, .int .u8 0, .int .u8 0, .int .u8 0, .int .u8 0, .int .u8 0, .int .u8 0, .int .u8 0, .int .u8 0, .int .u8 0, .int .u8 0, .int .u8 0, .int .u8 0, .int .u8 0, .int .u8 0, .int .u8 0, .int .u8 0, .int .u8 0, .int .u8 0, .int .u8 0, .int .u8 0, .int .u8 0, .int .u8 0, .int .u8 0, .int .u8 0, .int .u8 0, .int .u8 0, .int .u8 0, .int .u8 0, .int .u8 0, .int .u8 0, .int .u8 0, .int .u8 0, .int .u8 0, .int .u8 0, .int .u8 0, .int .u8 0, .int .u8 0, .int .u8 0, .int .u8 0, .int .u8 0, .int .u8 0])) (cs := b68E.arr z68) rfl (by kernel_rfl) rfl) ?_
        clear fr a
        intro b30 w31 hN32 B33 hb34 a fr
        have ap_P_b30 : Apart P b30 := hV.apart hb34
        have ap_M_b30 : Apart M b30 := hM.apart hb34
        have ne_b4_b30 : NE b4 b30 := NE.mk (Nat.lt_of_lt_of_le H.lt hb34)
        have ne_b25_b30 : NE b25 b30 := NE.mk (Nat.lt_of_lt_of_le B28.lt hb34)
        have g_b30 := Nat.le_trans hF.size hb34
        replace hV := hV.new hN32
        replace hM := hM.new hN32
        replace H := H.new hN32
        replace B28 := B28.new hN32
        replace hF := hF.trNew hN32
        refine wpList_nil ?_
        refine fx_next ?_
        refine wp_seq ?_
        refine wp_seq ?_
        refine wp_region_lit ?_  -- region 13
        refine fx_val (v := .int .i64 0) fr rfl rfl (by first | decide | simp) (x_assign rfl rfl) ?_
        clear fr a; intro a fr
        refine wpList_nil ?_
        refine fx_next ?_
        refine wp_block ?_
        refine fx_loop (fun nM a wL => ∃ z : B68, ∃ i : Nat, nM = 68 - i ∧ Fr (247, []) [(0, .slice P la.length cp), (1, .slice M lm.length cm), (2, .int .u32 addr), (3, .int .i64 width), (8, .bool false), (9, .pointer (some ⟨b4, 0, none⟩)), (11, .pointer (some ⟨b25, 0, none⟩)), (12, .pointer (some ⟨b30, 0, none⟩)), (13, .int .i64 ((i : Nat) : Int))] a ∧ Only (fun _ => False) w wL ∧ View actE wL P cp la ∧ View byE wL M cm lm ∧ BufAt wL b4 l ∧ Blk wL b25 51 (b68E.arr z) ∧ Blk wL b30 51 (b68E.arr z) ∧ i ≤ 68) (n0 := _) ⟨z68, 0, rfl, fr.sub ⟨rfl, rfl, rfl, rfl, rfl, rfl, rfl, rfl, rfl, trivial⟩, hF, hV, hM, H, B28, B33, by omega⟩ ?_
        rintro n36 a w35 ⟨z, i, rfl, fr, hF, hV, hM, H, Z1, Z2, hi⟩
        refine wp_seq ?_
        refine wp_seq ?_
        refine wp_region_lit ?_  -- region 14
        refine fx_val (v := .int .i64 ((i : Nat) : Int)) fr rfl rfl (by first | decide | simp) (x_move rfl (fr.ev rfl)) ?_
        clear fr a; intro a fr
        refine fx_val (v := .bool (decide (((i : Nat) : Int) < 68))) fr rfl rfl (by first | decide | simp) (x_lss rfl (fr.ev rfl) rfl rfl) ?_
        clear fr a; intro a fr
        refine fx_val (v := .bool (decide (((i : Nat) : Int) < 68))) fr rfl rfl (by first | decide | simp) (x_move rfl (fr.ev rfl)) ?_
        clear fr a; intro a fr
        refine fx_may (g := (decide (((i : Nat) : Int) < 68))) (v := .int .i64 ((i : Nat) : Int)) fr rfl rfl rfl (by simp) rfl (by first | decide | simp) (fun hg => x_move rfl (fr.ev rfl)) ?_
        clear fr a; intro a fr
        refine fx_may (g := (decide (((i : Nat) : Int) < 68))) (v := .slice M lm.length cm) fr rfl rfl rfl (by simp) rfl (by first | decide | simp) (fun hg => x_move rfl (fr.ev rfl)) ?_
        clear fr a; intro a fr
        refine fx_may (g := (decide (((i : Nat) : Int) < 68))) (v := .int .i64 ((lm.length : Nat) : Int)) fr rfl rfl rfl (by simp) rfl (by first | decide | simp) (fun hg => x_len Try.underlying46 rfl ((fr.ev rfl).trans (onlyIf_t hg))) ?_
        clear fr a; intro a fr
        refine fx_may (g := (decide (((i : Nat) : Int) < 68))) (v := .bool (decide (((i : Nat) : Int) < ((lm.length : Nat) : Int)))) fr rfl rfl rfl (by simp) rfl (by first | decide | simp) (fun hg => x_lss rfl ((fr.ev rfl).trans (onlyIf_t hg)) ((fr.ev rfl).trans (onlyIf_t hg)) rfl) ?_
        clear fr a; intro a fr
        refine fx_val (v := .bool ((decide (((i : Nat) : Int) < 68)) && (decide (((i : Nat) : Int) < ((lm.length : Nat) : Int))))) fr rfl rfl (by first | decide | simp) (x_pick_and rfl (fr.ev rfl) (fun hb => ((fr.ev rfl)).trans (onlyIf_t (by simp_all))) (fun _ => rfl) rfl) ?_
        clear fr a; intro a fr
        refine wpList_nil ?_
        refine fx_next ?_
        refine fx_cond fr rfl (fun hc37 => ?_) (fun hc37 => ?_)
        · skip
          have hc37s := hc37
          try simp at hc37s
          refine wp_skip ?_
          refine fx_next ?_
          refine wp_seq ?_
          refine wp_block ?_
          refine fx_heldT (n := 12) (k := 12) (fun w => View actE w P cp la ∧ View byE w M cm lm ∧ BufAt w b4 l ∧ Blk w b30 51 (b68E.arr z) ∧ True) (by kernel_rfl) (by kernel_rfl) rfl ?_  -- region 16
          intro w38 hN39
          replace hV := hV.new hN39
          replace hM := hM.new hN39
          replace H := H.new hN39
          replace Z1 := Z1.new hN39
          replace Z2 := Z2.new hN39
          replace hF := hF.trNew hN39
          refine fx_take (i := 0) (v := .int .i64 ((i : Nat) : Int)) fr rfl (by kernel_rfl) rfl rfl (by first | decide | simp) (fun _ _ _ h => h) (fun _ ⟨hV, hM, H, Z2, _⟩ => x_move rfl (fr.ev rfl)) ⟨hV, hM, H, Z2, trivial⟩ ?_
          clear fr a; intro a fr
          refine fx_take (i := 1) (v := .int .i64 ((i : Nat) : Int)) fr rfl (by kernel_rfl) rfl rfl (by first | decide | simp) (fun _ _ _ h => h) (fun _ ⟨hV, hM, H, Z2, _⟩ => x_move rfl (fr.ev rfl)) ⟨hV, hM, H, Z2, trivial⟩ ?_
          clear fr a; intro a fr
          refine fx_take (i := 2) (v := .slice M lm.length cm) fr rfl (by kernel_rfl) rfl rfl (by first | decide | simp) (fun _ _ _ h => h) (fun _ ⟨hV, hM, H, Z2, _⟩ => x_move rfl (fr.ev rfl)) ⟨hV, hM, H, Z2, trivial⟩ ?_
          clear fr a; intro a fr
          refine fx_take (i := 3) (v := .int .i64 ((i : Nat) : Int)) fr rfl (by kernel_rfl) rfl rfl (by first | decide | simp) (fun _ _ _ h => h) (fun _ ⟨hV, hM, H, Z2, _⟩ => x_move rfl (fr.ev rfl)) ⟨hV, hM, H, Z2, trivial⟩ ?_
          clear fr a; intro a fr
          obtain ⟨g40, o41, hA42⟩ := (hM).some_ (by omega)
          refine fx_take (i := 4) (v := .pointer (some ⟨g40, o41 + i * 1, none⟩)) fr rfl (by kernel_rfl) rfl rfl (by first | decide | simp) (fun _ _ _ h => h) (fun _ ⟨hV, hM, H, Z2, _⟩ => x_indexV Try.underlying46 sz5 rfl (fr.ev rfl) hA42 (fr.ev rfl) (by omega) rfl) ⟨hV, hM, H, Z2, trivial⟩ ?_
          clear fr a; intro a fr
          refine fx_take (i := 5) (v := .int .u8 ((lm.getD i by0).1)) fr rfl (by kernel_rfl) rfl rfl (by first | decide | simp) (fun _ _ _ h => h) (fun _ ⟨hV, hM, H, Z2, _⟩ => x_load1 pl5 rfl (fr.ev rfl) (range_cell ((hM).elem hA42 i by0 (by omega)) 0 rfl rfl)) ⟨hV, hM, H, Z2, trivial⟩ ?_
          clear fr a; intro a fr
          refine fx_take (i := 6) (v := .slice M lm.length cm) fr rfl (by kernel_rfl) rfl rfl (by first | decide | simp) (fun _ _ _ h => h) (fun _ ⟨hV, hM, H, Z2, _⟩ => x_move rfl (fr.ev rfl)) ⟨hV, hM, H, Z2, trivial⟩ ?_
          clear fr a; intro a fr
          refine fx_take (i := 7) (v := .int .i64 ((i : Nat) : Int)) fr rfl (by kernel_rfl) rfl rfl (by first | decide | simp) (fun _ _ _ h => h) (fun _ ⟨hV, hM, H, Z2, _⟩ => x_move rfl (fr.ev rfl)) ⟨hV, hM, H, Z2, trivial⟩ ?_
          clear fr a; intro a fr
          refine fx_take (i := 8) (v := .pointer (some ⟨g40, o41 + i * 1, none⟩)) fr rfl (by kernel_rfl) rfl rfl (by first | decide | simp) (fun _ _ _ h => h) (fun _ ⟨hV, hM, H, Z2, _⟩ => x_indexV Try.underlying46 sz5 rfl (fr.ev rfl) hA42 (fr.ev rfl) (by omega) rfl) ⟨hV, hM, H, Z2, trivial⟩ ?_
          clear fr a; intro a fr
          refine fx_take (i := 9) (v := .int .u8 ((lm.getD i by0).1)) fr rfl (by kernel_rfl) rfl rfl (by first | decide | simp) (fun _ _ _ h => h) (fun _ ⟨hV, hM, H, Z2, _⟩ => x_load1 pl5 rfl (fr.ev rfl) (range_cell ((hM).elem hA42 i by0 (by omega)) 0 rfl rfl)) ⟨hV, hM, H, Z2, trivial⟩ ?_
          clear fr a; intro a fr
          refine fx_take (i := 10) (v := .pointer (some ⟨b25, 0 + i * 1, none⟩)) fr rfl (by kernel_rfl) rfl rfl (by first | decide | simp) (fun _ _ _ h => h) (fun _ ⟨hV, hM, H, Z2, _⟩ => x_indexArr Try.underlying51 sz5 rfl (fr.ev rfl) (fr.ev rfl) (by omega) rfl) ⟨hV, hM, H, Z2, trivial⟩ ?_
          clear fr a; intro a fr
          refine fx_one (i := 11) (by kernel_rfl) (fx_op rfl ?_)
          refine fx_store1 sz5 rfl rfl rfl (fr.ev rfl) (fr.ev rfl) rfl Z1 (by rw [b68E.size]; show _ < 68; omega) (cs' := b68E.arr (z.put i ((lm.getD i by0).1) ((lm.getD i by0)).2)) (by rw [show (0 + i * 1 : Nat) = i by omega]; exact b68_put z ((lm.getD i by0)).2) fun w43 hO44 hBq => ?_
          replace hV := hV.only hO44 (Apart.ne1 ap_P_b25)
          replace hM := hM.only hO44 (Apart.ne1 ap_M_b25)
          replace H := H.only hO44 (by first | exact ne_b4_b25 | exact ne_b25_b4.symm | (show ¬ b4 = b25; omega))
          replace Z2 := Z2.only hO44 (by first | exact ne_b30_b25 | exact ne_b25_b30.symm | (show ¬ b30 = b25; omega))
          replace hF := hF.loc hO44 (.inr g_b25)
          replace Z1 := hBq
          clear hBq
          refine wpList_nil ?_
          refine ⟨⟨hV, hM, H, Z2, trivial⟩, ?_⟩
          refine fx_hdone (by kernel_rfl) ?_
          refine fx_tail ?_
          refine fx_val (v := .pointer (some ⟨b30, 0 + i * 1, none⟩)) fr rfl rfl (by first | decide | simp) (x_indexArr Try.underlying51 sz5 rfl (fr.ev rfl) (fr.ev rfl) (by omega) rfl) ?_
          clear fr a; intro a fr
          refine fx_store1 sz5 rfl rfl rfl (fr.ev rfl) (fr.ev rfl) rfl Z2 (by rw [b68E.size]; show _ < 68; omega) (cs' := b68E.arr (z.put i ((lm.getD i by0).1) ((lm.getD i by0)).2)) (by rw [show (0 + i * 1 : Nat) = i by omega]; exact b68_put z ((lm.getD i by0)).2) fun w45 hO46 hBq => ?_
          replace hV := hV.only hO46 (Apart.ne1 ap_P_b30)
          replace hM := hM.only hO46 (Apart.ne1 ap_M_b30)
          replace H := H.only hO46 (by first | exact ne_b4_b30 | exact ne_b30_b4.symm | (show ¬ b4 = b30; omega))
          replace Z1 := Z1.only hO46 (by first | exact ne_b25_b30 | exact ne_b30_b25.symm | (show ¬ b25 = b30; omega))
          replace hF := hF.loc hO46 (.inr g_b30)
          replace Z2 := hBq
          clear hBq
          refine wpList_nil ?_
          refine fx_blk ?_
          refine fx_next ?_
          refine wp_region_lit ?_  -- region 15
          refine fx_val (v := .int .i64 ((i : Nat) : Int)) fr rfl rfl (by first | decide | simp) (x_move rfl (fr.ev rfl)) ?_
          clear fr a; intro a fr
          refine fx_val (v := .int .i64 ((i + 1 : Nat) : Int)) fr rfl rfl (by first | decide | simp) (x_add rfl (fr.ev rfl) rfl (i64w (r := ((i + 1 : Nat) : Int)) (by omega) (by omega))) ?_
          clear fr a; intro a fr
          refine fx_val (v := .int .i64 ((i + 1 : Nat) : Int)) fr rfl rfl (by first | decide | simp) (x_assign rfl (fr.ev rfl)) ?_
          clear fr a; intro a fr
          refine wpList_nil ?_
          refine fx_next ?_
          exact ⟨_, by omega, (z.put i ((lm.getD i by0).1) ((lm.getD i by0)).2), (i + 1), rfl, fr.sub ⟨rfl, rfl, rfl, rfl, rfl, rfl, rfl, rfl, rfl, trivial⟩, hF, hV, hM, H, Z1, Z2, by omega⟩
        · skip
          have hc37s := hc37
          try simp at hc37s
          refine wp_exit ?_
          refine fx_xt ?_
          refine fx_xt ?_
          refine fx_xx ?_
          refine fx_next ?_
          refine wp_seq ?_
          refine wp_region_lit ?_  -- region 17
          refine fx_val (v := .pointer (some ⟨b4, 0, none⟩)) fr rfl rfl (by first | decide | simp) (x_move rfl (fr.ev rfl)) ?_
          clear fr a; intro a fr
          refine fx_call fr rfl rfl (by first | decide | simp) (x_call (vs := [.pointer (some ⟨b4, 0, none⟩)]) rfl rfl ⟨(fr.ev rfl), trivial⟩ Try.func19 nm19 rfl) (all_c H) ?_
          clear fr a
          rintro v w51 ⟨A47, cap48, rfl, O49, hA50, hN52⟩ a fr
          have ap2_P_A47 : Apart2 P A47 := (new_apart2 hA50 fun _ hg => hV.lt hg).symm
          have ap2_M_A47 : Apart2 M A47 := (new_apart2 hA50 fun _ hg => hM.lt hg).symm
          have ap_A47_b4 : Apart A47 b4 := new_apart hA50 H.lt
          have ap_A47_b25 : Apart A47 b25 := new_apart hA50 Z1.lt
          have ap_A47_b30 : Apart A47 b30 := new_apart hA50 Z2.lt
          have gA_A47 := gA_new hF hA50
          replace hV := hV.new hN52
          replace hM := hM.new hN52
          replace H := H.new hN52
          replace Z1 := Z1.new hN52
          replace Z2 := Z2.new hN52
          replace hF := hF.trNew hN52
          refine fx_val (v := .slice A47 ((vals l).length) cap48) fr rfl rfl (by first | decide | simp) (x_assign rfl (fr.ev rfl)) ?_
          clear fr a; intro a fr
          refine wpList_nil ?_
          refine fx_next ?_
          refine wp_seq ?_
          refine wp_seq ?_
          refine wp_region_lit ?_  -- region 18
          refine fx_val (v := .int .i64 0) fr rfl rfl (by first | decide | simp) (x_assign rfl rfl) ?_
          clear fr a; intro a fr
          refine wpList_nil ?_
          refine fx_next ?_
          refine wp_block ?_
          refine fx_loop (fun nM a wL => ∃ i : Nat, nM = l.length - i ∧ Fr (247, []) [(0, .slice P la.length cp), (1, .slice M lm.length cm), (2, .int .u32 addr), (3, .int .i64 width), (8, .bool false), (9, .pointer (some ⟨b4, 0, none⟩)), (11, .pointer (some ⟨b25, 0, none⟩)), (12, .pointer (some ⟨b30, 0, none⟩)), (14, .slice A47 ((vals l).length) cap48), (15, .int .i64 ((i : Nat) : Int))] a ∧ Only (fun _ => False) w wL ∧ View actE wL P cp la ∧ View byE wL M cm lm ∧ BufAt wL b4 l ∧ Blk wL b25 51 (b68E.arr z) ∧ Own stE wL A47 cap48 (vals l) ∧ Blk wL b30 51 (b68E.arr (wrL z (l.take i))) ∧ i ≤ l.length) (n0 := _) ⟨0, rfl, fr.sub ⟨rfl, rfl, rfl, rfl, rfl, rfl, rfl, rfl, rfl, rfl, trivial⟩, hF, hV, hM, H, Z1, O49, Z2, by omega⟩ ?_
          rintro n54 a w53 ⟨i, rfl, fr, hF, hV, hM, H, Z1, O49, Z2, hi⟩
          have hvl := vals_len l
          have hml := H.len
          refine wp_seq ?_
          refine wp_seq ?_
          refine wp_region_lit ?_  -- region 19
          refine fx_val (v := .int .i64 ((i : Nat) : Int)) fr rfl rfl (by first | decide | simp) (x_move rfl (fr.ev rfl)) ?_
          clear fr a; intro a fr
          refine fx_val (v := .slice A47 ((vals l).length) cap48) fr rfl rfl (by first | decide | simp) (x_move rfl (fr.ev rfl)) ?_
          clear fr a; intro a fr
          refine fx_val (v := .int .i64 (((vals l).length : Nat) : Int)) fr rfl rfl (by first | decide | simp) (x_len Try.underlying32 rfl (fr.ev rfl)) ?_
          clear fr a; intro a fr
          refine fx_val (v := .bool (decide (((i : Nat) : Int) < (((vals l).length : Nat) : Int)))) fr rfl rfl (by first | decide | simp) (x_lss rfl (fr.ev rfl) (fr.ev rfl) rfl) ?_
          clear fr a; intro a fr
          refine wpList_nil ?_
          refine fx_next ?_
          refine fx_cond fr rfl (fun hc55 => ?_) (fun hc55 => ?_)
          · skip
            have hc55 := of_decide_eq_true hc55
            refine wp_skip ?_
            refine fx_next ?_
            refine wp_seq ?_
            refine wp_block ?_
            refine wp_seq ?_
            refine wp_seq ?_
            obtain ⟨s, hsi⟩ : ∃ s, s = (l.getD i v0).1 := ⟨_, rfl⟩
            have hxe : ((vals l).getD i st0) = s := by rw [hsi]; exact vals_at l i (by omega)
            obtain ⟨hss, hsm⟩ := (l.getD i v0).spec
            rw [← hsi] at hss hsm
            have hs64 : s.addr < 64 := by rw [hsi]; exact hl _ (mem_getD (by omega))
            have hsa := s.ha
            have hsv := s.hv
            refine wp_region_lit ?_  -- region 21
            refine fx_val (v := .slice A47 ((vals l).length) cap48) fr rfl rfl (by first | decide | simp) (x_move rfl (fr.ev rfl)) ?_
            clear fr a; intro a fr
            refine fx_val (v := .int .i64 ((i : Nat) : Int)) fr rfl rfl (by first | decide | simp) (x_move rfl (fr.ev rfl)) ?_
            clear fr a; intro a fr
            obtain ⟨g56, o57, hA58⟩ := (O49.view).some_ (by omega)
            refine fx_val (v := .pointer (some ⟨g56, o57 + i * 3, none⟩)) fr rfl rfl (by first | decide | simp) (x_indexV Try.underlying32 sz24 rfl (fr.ev rfl) hA58 (fr.ev rfl) (by omega) rfl) ?_
            clear fr a; intro a fr
            refine fx_val (v := .pointer (some ⟨g56, o57 + i * 3, none⟩)) fr rfl rfl (by first | decide | simp) (x_fieldAddr fo24_0 rfl (fr.ev rfl) rfl) ?_
            clear fr a; intro a fr
            refine fx_val (v := .int .u32 s.addr) fr rfl rfl (by first | decide | simp) ((by rw [← hxe]; exact x_load1 pl22 rfl (fr.ev rfl) (range_cell ((O49.view).elem hA58 i st0 (by omega)) 0 rfl rfl))) ?_
            clear fr a; intro a fr
            refine fx_val (v := .bool (decide (64 < s.addr))) fr rfl rfl (by first | decide | simp) (x_gtr rfl (fr.ev rfl) rfl rfl) ?_
            clear fr a; intro a fr
            refine fx_val (v := .bool (decide (64 < s.addr))) fr rfl rfl (by first | decide | simp) (x_move rfl (fr.ev rfl)) ?_
            clear fr a; intro a fr
            refine fx_may (g := !(decide (64 < s.addr))) (v := .slice A47 ((vals l).length) cap48) fr rfl rfl rfl (by simp) rfl (by first | decide | simp) (fun hg => x_move rfl (fr.ev rfl)) ?_
            clear fr a; intro a fr
            refine fx_may (g := !(decide (64 < s.addr))) (v := .int .i64 ((i : Nat) : Int)) fr rfl rfl rfl (by simp) rfl (by first | decide | simp) (fun hg => x_move rfl (fr.ev rfl)) ?_
            clear fr a; intro a fr
            refine fx_may (g := !(decide (64 < s.addr))) (v := .pointer (some ⟨g56, o57 + i * 3, none⟩)) fr rfl rfl rfl (by simp) rfl (by first | decide | simp) (fun hg => x_indexV Try.underlying32 sz24 rfl ((fr.ev rfl).trans (onlyIf_t hg)) hA58 ((fr.ev rfl).trans (onlyIf_t hg)) (by omega) rfl) ?_
            clear fr a; intro a fr
            refine fx_may (g := !(decide (64 < s.addr))) (v := .pointer (some ⟨g56, o57 + i * 3 + 1, none⟩)) fr rfl rfl rfl (by simp) rfl (by first | decide | simp) (fun hg => x_fieldAddr fo24_1 rfl ((fr.ev rfl).trans (onlyIf_t hg)) rfl) ?_
            clear fr a; intro a fr
            refine fx_may (g := !(decide (64 < s.addr))) (v := .int .i64 s.width) fr rfl rfl rfl (by simp) rfl (by first | decide | simp) (fun hg => (by rw [← hxe]; exact x_load1 pl3 rfl ((fr.ev rfl).trans (onlyIf_t hg)) (range_cell ((O49.view).elem hA58 i st0 (by omega)) 1 rfl rfl))) ?_
            clear fr a; intro a fr
            refine fx_may (g := !(decide (64 < s.addr))) (v := .bool (decide (s.width < 1))) fr rfl rfl rfl (by simp) rfl (by first | decide | simp) (fun hg => x_lss rfl ((fr.ev rfl).trans (onlyIf_t hg)) rfl rfl) ?_
            clear fr a; intro a fr
            refine fx_val (v := .bool ((decide (64 < s.addr)) || (decide (s.width < 1)))) fr rfl rfl (by first | decide | simp) (x_pick_or rfl (fr.ev rfl) (fun _ => rfl) (fun hb => ((fr.ev rfl)).trans (onlyIf_t (by simp_all))) rfl) ?_
            clear fr a; intro a fr
            refine fx_val (v := .bool ((decide (64 < s.addr)) || (decide (s.width < 1)))) fr rfl rfl (by first | decide | simp) (x_move rfl (fr.ev rfl)) ?_
            clear fr a; intro a fr
            refine fx_may (g := !((decide (64 < s.addr)) || (decide (s.width < 1)))) (v := .slice A47 ((vals l).length) cap48) fr rfl rfl rfl (by simp) rfl (by first | decide | simp) (fun hg => x_move rfl (fr.ev rfl)) ?_
            clear fr a; intro a fr
            refine fx_may (g := !((decide (64 < s.addr)) || (decide (s.width < 1)))) (v := .int .i64 ((i : Nat) : Int)) fr rfl rfl rfl (by simp) rfl (by first | decide | simp) (fun hg => x_move rfl (fr.ev rfl)) ?_
            clear fr a; intro a fr
            refine fx_may (g := !((decide (64 < s.addr)) || (decide (s.width < 1)))) (v := .pointer (some ⟨g56, o57 + i * 3, none⟩)) fr rfl rfl rfl (by simp) rfl (by first | decide | simp) (fun hg => x_indexV Try.underlying32 sz24 rfl ((fr.ev rfl).trans (onlyIf_t hg)) hA58 ((fr.ev rfl).trans (onlyIf_t hg)) (by omega) rfl) ?_
            clear fr a; intro a fr
            refine fx_may (g := !((decide (64 < s.addr)) || (decide (s.width < 1)))) (v := .pointer (some ⟨g56, o57 + i * 3 + 1, none⟩)) fr rfl rfl rfl (by simp) rfl (by first | decide | simp) (fun hg => x_fieldAddr fo24_1 rfl ((fr.ev rfl).trans (onlyIf_t hg)) rfl) ?_
            clear fr a; intro a fr
            refine fx_may (g := !((decide (64 < s.addr)) || (decide (s.width < 1)))) (v := .int .i64 s.width) fr rfl rfl rfl (by simp) rfl (by first | decide | simp) (fun hg => (by rw [← hxe]; exact x_load1 pl3 rfl ((fr.ev rfl).trans (onlyIf_t hg)) (range_cell ((O49.view).elem hA58 i st0 (by omega)) 1 rfl rfl))) ?_
            clear fr a; intro a fr
            refine fx_may (g := !((decide (64 < s.addr)) || (decide (s.width < 1)))) (v := .bool (decide (4 < s.width))) fr rfl rfl rfl (by simp) rfl (by first | decide | simp) (fun hg => x_gtr rfl ((fr.ev rfl).trans (onlyIf_t hg)) rfl rfl) ?_
            clear fr a; intro a fr
            refine fx_val (v := .bool (((decide (64 < s.addr)) || (decide (s.width < 1))) || (decide (4 < s.width)))) fr rfl rfl (by first | decide | simp) (x_pick_or rfl (fr.ev rfl) (fun _ => rfl) (fun hb => ((fr.ev rfl)).trans (onlyIf_t (by simp_all))) rfl) ?_
            clear fr a; intro a fr
            refine wpList_nil ?_
            refine fx_next ?_
            refine fx_cond fr rfl (fun hc59 => ?_) (fun hc59 => ?_)
            · skip
              have hc59s := hc59
              try simp at hc59s
              refine wp_seq ?_
              refine wp_region_lit ?_  -- region 22
              refine fx_val (v := .bool false) fr rfl rfl (by first | decide | simp) (x_assign rfl rfl) ?_
              clear fr a; intro a fr
              refine wpList_nil ?_
              refine fx_next ?_
              refine wp_ret ?_
              refine fx_rt ?_
              refine fx_rb ?_
              refine fx_rt ?_
              refine fx_rt ?_
              refine fx_rb ?_
              refine fx_rt ?_
              refine fx_ret fr [.tmp 8] [.bool false] rfl ⟨rfl, trivial⟩ rfl ?_
              exfalso
              omega
            · skip
              have hc59s := hc59
              try simp at hc59s
              refine wp_skip ?_
              refine fx_next ?_
              refine wp_seq ?_
              refine wp_region_lit ?_  -- region 23
              refine fx_val (v := .slice A47 ((vals l).length) cap48) fr rfl rfl (by first | decide | simp) (x_move rfl (fr.ev rfl)) ?_
              clear fr a; intro a fr
              refine fx_val (v := .int .i64 ((i : Nat) : Int)) fr rfl rfl (by first | decide | simp) (x_move rfl (fr.ev rfl)) ?_
              clear fr a; intro a fr
              refine fx_val (v := .pointer (some ⟨g56, o57 + i * 3, none⟩)) fr rfl rfl (by first | decide | simp) (x_indexV Try.underlying32 sz24 rfl (fr.ev rfl) hA58 (fr.ev rfl) (by omega) rfl) ?_
              clear fr a; intro a fr
              refine fx_val (v := .pointer (some ⟨g56, o57 + i * 3 + 2, none⟩)) fr rfl rfl (by first | decide | simp) (x_fieldAddr fo24_2 rfl (fr.ev rfl) rfl) ?_
              clear fr a; intro a fr
              refine fx_val (v := .int .u32 s.value) fr rfl rfl (by first | decide | simp) ((by rw [← hxe]; exact x_load1 pl22 rfl (fr.ev rfl) (range_cell ((O49.view).elem hA58 i st0 (by omega)) 2 rfl rfl))) ?_
              clear fr a; intro a fr
              refine fx_val (v := .int .u32 s.value) fr rfl rfl (by first | decide | simp) (x_assign rfl (fr.ev rfl)) ?_
              clear fr a; intro a fr
              refine wpList_nil ?_
              refine fx_next ?_
              refine wp_seq ?_
              refine wp_region_lit ?_  -- region 24
              refine fx_val (v := .int .i64 0) fr rfl rfl (by first | decide | simp) (x_assign rfl rfl) ?_
              clear fr a; intro a fr
              refine wpList_nil ?_
              refine fx_next ?_
              refine wp_block ?_
              rw [show s.value = s.value / 256 ^ 0 by simp] at fr
              refine fx_loop (fun nM a wL => ∃ q : Nat, nM = s.width.toNat - q ∧ Fr (247, []) [(0, .slice P la.length cp), (1, .slice M lm.length cm), (2, .int .u32 addr), (3, .int .i64 width), (8, .bool false), (9, .pointer (some ⟨b4, 0, none⟩)), (11, .pointer (some ⟨b25, 0, none⟩)), (12, .pointer (some ⟨b30, 0, none⟩)), (14, .slice A47 ((vals l).length) cap48), (15, .int .i64 ((i : Nat) : Int)), (16, .int .u32 (s.value / 256 ^ q)), (17, .int .i64 ((q : Nat) : Int))] a ∧ Only (fun _ => False) w wL ∧ View actE wL P cp la ∧ View byE wL M cm lm ∧ BufAt wL b4 l ∧ Blk wL b25 51 (b68E.arr z) ∧ Own stE wL A47 cap48 (vals l) ∧ Blk wL b30 51 (b68E.arr (wrq (wrL z (l.take i)) s q)) ∧ ((q : Nat) : Int) ≤ s.width) (n0 := _) ⟨0, rfl, fr.sub ⟨rfl, rfl, rfl, rfl, rfl, rfl, rfl, rfl, rfl, rfl, rfl, rfl, trivial⟩, hF, hV, hM, H, Z1, O49, Z2, by omega⟩ ?_
              rintro n61 a w60 ⟨q, rfl, fr, hF, hV, hM, H, Z1, O49, Z2, hqs⟩
              have hnb := pow_bd hsv q
              refine wp_seq ?_
              refine wp_seq ?_
              refine wp_region_lit ?_  -- region 25
              refine fx_val (v := .int .i64 ((q : Nat) : Int)) fr rfl rfl (by first | decide | simp) (x_move rfl (fr.ev rfl)) ?_
              clear fr a; intro a fr
              refine fx_val (v := .slice A47 ((vals l).length) cap48) fr rfl rfl (by first | decide | simp) (x_move rfl (fr.ev rfl)) ?_
              clear fr a; intro a fr
              refine fx_val (v := .int .i64 ((i : Nat) : Int)) fr rfl rfl (by first | decide | simp) (x_move rfl (fr.ev rfl)) ?_
              clear fr a; intro a fr
              refine fx_val (v := .pointer (some ⟨g56, o57 + i * 3, none⟩)) fr rfl rfl (by first | decide | simp) (x_indexV Try.underlying32 sz24 rfl (fr.ev rfl) hA58 (fr.ev rfl) (by omega) rfl) ?_
              clear fr a; intro a fr
              refine fx_val (v := .pointer (some ⟨g56, o57 + i * 3 + 1, none⟩)) fr rfl rfl (by first | decide | simp) (x_fieldAddr fo24_1 rfl (fr.ev rfl) rfl) ?_
              clear fr a; intro a fr
              refine fx_val (v := .int .i64 s.width) fr rfl rfl (by first | decide | simp) ((by rw [← hxe]; exact x_load1 pl3 rfl (fr.ev rfl) (range_cell ((O49.view).elem hA58 i st0 (by omega)) 1 rfl rfl))) ?_
              clear fr a; intro a fr
              refine fx_val (v := .bool (decide (((q : Nat) : Int) < s.width))) fr rfl rfl (by first | decide | simp) (x_lss rfl (fr.ev rfl) (fr.ev rfl) rfl) ?_
              clear fr a; intro a fr
              refine wpList_nil ?_
              refine fx_next ?_
              refine fx_cond fr rfl (fun hc62 => ?_) (fun hc62 => ?_)
              · skip
                have hc62 := of_decide_eq_true hc62
                refine wp_skip ?_
                refine fx_next ?_
                refine wp_seq ?_
                refine wp_block ?_
                refine wp_seq ?_
                refine wp_region_lit ?_  -- region 27
                refine fx_val (v := .slice A47 ((vals l).length) cap48) fr rfl rfl (by first | decide | simp) (x_move rfl (fr.ev rfl)) ?_
                clear fr a; intro a fr
                refine fx_val (v := .int .i64 ((i : Nat) : Int)) fr rfl rfl (by first | decide | simp) (x_move rfl (fr.ev rfl)) ?_
                clear fr a; intro a fr
                refine fx_val (v := .pointer (some ⟨g56, o57 + i * 3, none⟩)) fr rfl rfl (by first | decide | simp) (x_indexV Try.underlying32 sz24 rfl (fr.ev rfl) hA58 (fr.ev rfl) (by omega) rfl) ?_
                clear fr a; intro a fr
                refine fx_val (v := .pointer (some ⟨g56, o57 + i * 3, none⟩)) fr rfl rfl (by first | decide | simp) (x_fieldAddr fo24_0 rfl (fr.ev rfl) rfl) ?_
                clear fr a; intro a fr
                refine fx_val (v := .int .u32 s.addr) fr rfl rfl (by first | decide | simp) ((by rw [← hxe]; exact x_load1 pl22 rfl (fr.ev rfl) (range_cell ((O49.view).elem hA58 i st0 (by omega)) 0 rfl rfl))) ?_
                clear fr a; intro a fr
                refine fx_val (v := .int .i64 s.addr) fr rfl rfl (by first | decide | simp) (x_convert Try.underlying22 Try.underlying3 rfl (fr.ev rfl) (i64w (r := s.addr) rfl (by omega))) ?_
                clear fr a; intro a fr
                refine fx_val (v := .int .i64 ((q : Nat) : Int)) fr rfl rfl (by first | decide | simp) (x_move rfl (fr.ev rfl)) ?_
                clear fr a; intro a fr
                refine fx_val (v := .int .i64 ((s.addr.toNat + q : Nat) : Int)) fr rfl rfl (by first | decide | simp) (x_add rfl (fr.ev rfl) (fr.ev rfl) (i64w (r := ((s.addr.toNat + q : Nat) : Int)) (by omega) (by omega))) ?_
                clear fr a; intro a fr
                refine fx_val (v := .int .u32 (s.value / 256 ^ q)) fr rfl rfl (by first | decide | simp) (x_move rfl (fr.ev rfl)) ?_
                clear fr a; intro a fr
                refine fx_val (v := .int .u32 (s.value / 256 ^ q % 256)) fr rfl rfl (by first | decide | simp) (x_rem rfl (fr.ev rfl) rfl (by decide) (rem_nn hnb.1)) ?_
                clear fr a; intro a fr
                refine fx_val (v := .int .u8 (s.value / 256 ^ q % 256)) fr rfl rfl (by first | decide | simp) (x_convert Try.underlying22 Try.underlying5 rfl (fr.ev rfl) (u8w rfl (by omega))) ?_
                clear fr a; intro a fr
                refine fx_val (v := .pointer (some ⟨b30, 0 + (s.addr.toNat + q) * 1, none⟩)) fr rfl rfl (by first | decide | simp) (x_indexArr Try.underlying51 sz5 rfl (fr.ev rfl) (fr.ev rfl) (by omega) rfl) ?_
                clear fr a; intro a fr
                refine fx_store1 sz5 rfl rfl rfl (fr.ev rfl) (fr.ev rfl) rfl Z2 (by rw [b68E.size]; show _ < 68; omega) (cs' := b68E.arr ((wrq (wrL z (l.take i)) s q).put (s.addr.toNat + q) (s.value / 256 ^ q % 256) (byte_bd _ _))) (by rw [show (0 + (s.addr.toNat + q) * 1 : Nat) = s.addr.toNat + q by omega]; exact b68_put (wrq (wrL z (l.take i)) s q) (byte_bd _ _)) fun w63 hO64 hBq => ?_
                replace hV := hV.only hO64 (Apart.ne1 ap_P_b30)
                replace hM := hM.only hO64 (Apart.ne1 ap_M_b30)
                replace H := H.only hO64 (by first | exact ne_b4_b30 | exact ne_b30_b4.symm | (show ¬ b4 = b30; omega))
                replace Z1 := Z1.only hO64 (by first | exact ne_b25_b30 | exact ne_b30_b25.symm | (show ¬ b25 = b30; omega))
                replace O49 := O49.only hO64 (Apart.ne1 ap_A47_b30)
                replace hF := hF.loc hO64 (.inr g_b30)
                replace Z2 := hBq
                clear hBq
                refine wpList_nil ?_
                refine fx_next ?_
                refine wp_region_lit ?_  -- region 28
                refine fx_val (v := .int .u32 (s.value / 256 ^ q)) fr rfl rfl (by first | decide | simp) (x_move rfl (fr.ev rfl)) ?_
                clear fr a; intro a fr
                refine fx_val (v := .int .u32 (s.value / 256 ^ q / 256)) fr rfl rfl (by first | decide | simp) (x_quo rfl (fr.ev rfl) rfl (by decide) (u32q hnb (by decide))) ?_
                clear fr a; intro a fr
                refine fx_val (v := .int .u32 (s.value / 256 ^ q / 256)) fr rfl rfl (by first | decide | simp) (x_assign rfl (fr.ev rfl)) ?_
                clear fr a; intro a fr
                refine wpList_nil ?_
                refine fx_blk ?_
                refine fx_next ?_
                refine wp_region_lit ?_  -- region 26
                refine fx_val (v := .int .i64 ((q : Nat) : Int)) fr rfl rfl (by first | decide | simp) (x_move rfl (fr.ev rfl)) ?_
                clear fr a; intro a fr
                refine fx_val (v := .int .i64 ((q + 1 : Nat) : Int)) fr rfl rfl (by first | decide | simp) (x_add rfl (fr.ev rfl) rfl (i64w (r := ((q + 1 : Nat) : Int)) (by omega) (by omega))) ?_
                clear fr a; intro a fr
                refine fx_val (v := .int .i64 ((q + 1 : Nat) : Int)) fr rfl rfl (by first | decide | simp) (x_assign rfl (fr.ev rfl)) ?_
                clear fr a; intro a fr
                refine wpList_nil ?_
                refine fx_next ?_
                rw [pow_div hsv q] at fr
                exact ⟨_, by omega, (q + 1), rfl, fr.sub ⟨rfl, rfl, rfl, rfl, rfl, rfl, rfl, rfl, rfl, rfl, rfl, rfl, trivial⟩, hF, hV, hM, H, Z1, O49, Z2, by omega⟩
              · skip
                have hc62 := of_decide_eq_false hc62
                refine wp_exit ?_
                refine fx_xt ?_
                refine fx_xt ?_
                refine fx_xx ?_
                refine fx_blk ?_
                refine fx_next ?_
                refine wp_region_lit ?_  -- region 20
                refine fx_val (v := .int .i64 ((i : Nat) : Int)) fr rfl rfl (by first | decide | simp) (x_move rfl (fr.ev rfl)) ?_
                clear fr a; intro a fr
                refine fx_val (v := .int .i64 ((i + 1 : Nat) : Int)) fr rfl rfl (by first | decide | simp) (x_add rfl (fr.ev rfl) rfl (i64w (r := ((i + 1 : Nat) : Int)) (by omega) (by omega))) ?_
                clear fr a; intro a fr
                refine fx_val (v := .int .i64 ((i + 1 : Nat) : Int)) fr rfl rfl (by first | decide | simp) (x_assign rfl (fr.ev rfl)) ?_
                clear fr a; intro a fr
                refine wpList_nil ?_
                refine fx_next ?_
                exact ⟨_, by omega, (i + 1), rfl, fr.sub ⟨rfl, rfl, rfl, rfl, rfl, rfl, rfl, rfl, rfl, rfl, trivial⟩, hF, hV, hM, H, Z1, O49, (by rw [wrL_take (by omega), ← hsi, show s.width.toNat = q by omega]; exact Z2), by omega⟩
          · skip
            have hc55 := of_decide_eq_false hc55
            refine wp_exit ?_
            refine fx_xt ?_
            refine fx_xt ?_
            refine fx_xx ?_
            refine fx_next ?_
            refine wp_seq ?_
            refine wp_region_lit ?_  -- region 29
            refine fx_val (v := .pointer (some ⟨b4, 0, none⟩)) fr rfl rfl (by first | decide | simp) (x_move rfl (fr.ev rfl)) ?_
            clear fr a; intro a fr
            refine fx_val (v := .int .u32 addr) fr rfl rfl (by first | decide | simp) (x_move rfl (fr.ev rfl)) ?_
            clear fr a; intro a fr
            refine fx_val (v := .int .i64 width) fr rfl rfl (by first | decide | simp) (x_move rfl (fr.ev rfl)) ?_
            clear fr a; intro a fr
            refine fx_call fr rfl rfl (by first | decide | simp) (x_call (vs := [.pointer (some ⟨b4, 0, none⟩), .int .u32 addr, .int .i64 width]) rfl rfl ⟨(fr.ev rfl), (fr.ev rfl), (fr.ev rfl), trivial⟩ Try.func11 nm11 rfl) (forward_c H addr width (by omega)) ?_
            clear fr a
            rintro v w65 ⟨rfl, hN66⟩ a fr
            replace hV := hV.new hN66
            replace hM := hM.new hN66
            replace H := H.new hN66
            replace Z1 := Z1.new hN66
            replace O49 := O49.new hN66
            replace Z2 := Z2.new hN66
            replace hF := hF.trNew hN66
            refine fx_val (v := .tuple #[.int .u32 ((fwd l addr width).1), .int .i64 ((fwd l addr width).2)]) fr rfl rfl (by first | decide | simp) (x_move rfl (fr.ev rfl)) ?_
            clear fr a; intro a fr
            refine fx_val (v := .int .u32 ((fwd l addr width).1)) fr rfl rfl (by first | decide | simp) (x_extract rfl (fr.ev rfl) rfl) ?_
            clear fr a; intro a fr
            refine fx_val (v := .int .i64 ((fwd l addr width).2)) fr rfl rfl (by first | decide | simp) (x_extract rfl (fr.ev rfl) rfl) ?_
            clear fr a; intro a fr
            refine fx_val (v := .int .u32 ((fwd l addr width).1)) fr rfl rfl (by first | decide | simp) (x_assign rfl (fr.ev rfl)) ?_
            clear fr a; intro a fr
            refine fx_val (v := .int .i64 ((fwd l addr width).2)) fr rfl rfl (by first | decide | simp) (x_assign rfl (fr.ev rfl)) ?_
            clear fr a; intro a fr
            refine wpList_nil ?_
            refine fx_next ?_
            refine wp_seq ?_
            refine wp_region_lit ?_  -- region 30
            refine fx_val (v := .int .u32 0) fr rfl rfl (by first | decide | simp) (x_assign rfl rfl) ?_
            clear fr a; intro a fr
            refine fx_val (v := .int .u32 0) fr rfl rfl (by first | decide | simp) (x_assign rfl rfl) ?_
            clear fr a; intro a fr
            refine wpList_nil ?_
            refine fx_next ?_
            refine wp_seq ?_
            refine wp_seq ?_
            refine wp_region_lit ?_  -- region 31
            refine fx_val (v := .int .i64 width) fr rfl rfl (by first | decide | simp) (x_move rfl (fr.ev rfl)) ?_
            clear fr a; intro a fr
            refine fx_val (v := .int .i64 (width - 1)) fr rfl rfl (by first | decide | simp) (x_sub rfl (fr.ev rfl) rfl (i64w (r := width - 1) (by omega) (by omega))) ?_
            clear fr a; intro a fr
            refine fx_val (v := .int .i64 (width - 1)) fr rfl rfl (by first | decide | simp) (x_assign rfl (fr.ev rfl)) ?_
            clear fr a; intro a fr
            refine wpList_nil ?_
            refine fx_next ?_
            refine wp_block ?_
            rw [show width - 1 = width - 1 - ((0 : Nat) : Int) by simp] at fr
            refine fx_loop (fun nM a wL => ∃ q : Nat, nM = width.toNat - q ∧ Fr (247, []) [(0, .slice P la.length cp), (1, .slice M lm.length cm), (2, .int .u32 addr), (3, .int .i64 width), (8, .bool false), (9, .pointer (some ⟨b4, 0, none⟩)), (11, .pointer (some ⟨b25, 0, none⟩)), (12, .pointer (some ⟨b30, 0, none⟩)), (14, .slice A47 ((vals l).length) cap48), (18, .int .u32 ((fwd l addr width).1)), (19, .int .i64 ((fwd l addr width).2)), (20, .int .u32 (rdq z addr width q)), (21, .int .u32 (rdq (wrL z (l.take i)) addr width q)), (22, .int .i64 (width - 1 - ((q : Nat) : Int)))] a ∧ Only (fun _ => False) w wL ∧ View actE wL P cp la ∧ View byE wL M cm lm ∧ BufAt wL b4 l ∧ Blk wL b25 51 (b68E.arr z) ∧ Own stE wL A47 cap48 (vals l) ∧ Blk wL b30 51 (b68E.arr (wrL z (l.take i))) ∧ ((q : Nat) : Int) ≤ width) (n0 := _) ⟨0, rfl, fr.sub ⟨rfl, rfl, rfl, rfl, rfl, rfl, rfl, rfl, rfl, rfl, rfl, rfl, rfl, rfl, trivial⟩, hF, hV, hM, H, Z1, O49, Z2, by omega⟩ ?_
            rintro n68 a w67 ⟨q, rfl, fr, hF, hV, hM, H, Z1, O49, Z2, hqw⟩
            refine wp_seq ?_
            refine wp_seq ?_
            refine wp_region_lit ?_  -- region 32
            refine fx_val (v := .int .i64 (width - 1 - ((q : Nat) : Int))) fr rfl rfl (by first | decide | simp) (x_move rfl (fr.ev rfl)) ?_
            clear fr a; intro a fr
            refine fx_val (v := .bool (decide (0 ≤ width - 1 - ((q : Nat) : Int)))) fr rfl rfl (by first | decide | simp) (x_geq rfl (fr.ev rfl) rfl rfl) ?_
            clear fr a; intro a fr
            refine wpList_nil ?_
            refine fx_next ?_
            refine fx_cond fr rfl (fun hc69 => ?_) (fun hc69 => ?_)
            · skip
              have hc69 := of_decide_eq_true hc69
              refine wp_skip ?_
              refine fx_next ?_
              refine wp_seq ?_
              refine wp_block ?_
              refine wp_seq ?_
              rw [show width - 1 - ((q : Nat) : Int) = ((width.toNat - 1 - q : Nat) : Int) by omega] at fr
              have hr1 := rdq_bd3 (q := q) z addr width (by omega)
              have hr2 := rdq_bd3 (q := q) (wrL z (l.take i)) addr width (by omega)
              have hz1 := z_bd z (addr.toNat + (width.toNat - 1 - q))
              have hz2 := z_bd (wrL z (l.take i)) (addr.toNat + (width.toNat - 1 - q))
              refine wp_region_lit ?_  -- region 34
              refine fx_val (v := .int .u32 (rdq z addr width q)) fr rfl rfl (by first | decide | simp) (x_move rfl (fr.ev rfl)) ?_
              clear fr a; intro a fr
              refine fx_val (v := .int .u32 ((rdq z addr width q) * 256)) fr rfl rfl (by first | decide | simp) (x_mul rfl (fr.ev rfl) rfl (u32w (r := (rdq z addr width q) * 256) rfl (by omega))) ?_
              clear fr a; intro a fr
              refine fx_val (v := .int .u32 addr) fr rfl rfl (by first | decide | simp) (x_move rfl (fr.ev rfl)) ?_
              clear fr a; intro a fr
              refine fx_val (v := .int .i64 addr) fr rfl rfl (by first | decide | simp) (x_convert Try.underlying22 Try.underlying3 rfl (fr.ev rfl) (i64w (r := addr) rfl (by omega))) ?_
              clear fr a; intro a fr
              refine fx_val (v := .int .i64 ((width.toNat - 1 - q : Nat) : Int)) fr rfl rfl (by first | decide | simp) (x_move rfl (fr.ev rfl)) ?_
              clear fr a; intro a fr
              refine fx_val (v := .int .i64 ((addr.toNat + (width.toNat - 1 - q) : Nat) : Int)) fr rfl rfl (by first | decide | simp) (x_add rfl (fr.ev rfl) (fr.ev rfl) (i64w (r := ((addr.toNat + (width.toNat - 1 - q) : Nat) : Int)) (by omega) (by omega))) ?_
              clear fr a; intro a fr
              refine fx_val (v := .pointer (some ⟨b25, 0 + (addr.toNat + (width.toNat - 1 - q)) * 1, none⟩)) fr rfl rfl (by first | decide | simp) (x_indexArr Try.underlying51 sz5 rfl (fr.ev rfl) (fr.ev rfl) (by omega) rfl) ?_
              clear fr a; intro a fr
              refine fx_val (v := .int .u8 (z.1.getD (addr.toNat + (width.toNat - 1 - q)) 0)) fr rfl rfl (by first | decide | simp) (x_load1 pl5 rfl (fr.ev rfl) (by rw [show (0 + (addr.toNat + (width.toNat - 1 - q)) * 1 : Nat) = addr.toNat + (width.toNat - 1 - q) by omega]; exact Z1.cell _ (b68_cell z (by omega)))) ?_
              clear fr a; intro a fr
              refine fx_val (v := .int .u32 (z.1.getD (addr.toNat + (width.toNat - 1 - q)) 0)) fr rfl rfl (by first | decide | simp) (x_convert Try.underlying5 Try.underlying22 rfl (fr.ev rfl) (u32w (r := z.1.getD (addr.toNat + (width.toNat - 1 - q)) 0) rfl (by omega))) ?_
              clear fr a; intro a fr
              refine fx_val (v := .int .u32 ((rdq z addr width q) * 256 + (z.1.getD (addr.toNat + (width.toNat - 1 - q)) 0))) fr rfl rfl (by first | decide | simp) (x_add rfl (fr.ev rfl) (fr.ev rfl) (u32w (r := (rdq z addr width q) * 256 + (z.1.getD (addr.toNat + (width.toNat - 1 - q)) 0)) rfl (by omega))) ?_
              clear fr a; intro a fr
              refine fx_val (v := .int .u32 ((rdq z addr width q) * 256 + (z.1.getD (addr.toNat + (width.toNat - 1 - q)) 0))) fr rfl rfl (by first | decide | simp) (x_assign rfl (fr.ev rfl)) ?_
              clear fr a; intro a fr
              refine wpList_nil ?_
              refine fx_next ?_
              refine wp_region_lit ?_  -- region 35
              refine fx_val (v := .int .u32 (rdq (wrL z (l.take i)) addr width q)) fr rfl rfl (by first | decide | simp) (x_move rfl (fr.ev rfl)) ?_
              clear fr a; intro a fr
              refine fx_val (v := .int .u32 ((rdq (wrL z (l.take i)) addr width q) * 256)) fr rfl rfl (by first | decide | simp) (x_mul rfl (fr.ev rfl) rfl (u32w (r := (rdq (wrL z (l.take i)) addr width q) * 256) rfl (by omega))) ?_
              clear fr a; intro a fr
              refine fx_val (v := .int .u32 addr) fr rfl rfl (by first | decide | simp) (x_move rfl (fr.ev rfl)) ?_
              clear fr a; intro a fr
              refine fx_val (v := .int .i64 addr) fr rfl rfl (by first | decide | simp) (x_convert Try.underlying22 Try.underlying3 rfl (fr.ev rfl) (i64w (r := addr) rfl (by omega))) ?_
              clear fr a; intro a fr
              refine fx_val (v := .int .i64 ((width.toNat - 1 - q : Nat) : Int)) fr rfl rfl (by first | decide | simp) (x_move rfl (fr.ev rfl)) ?_
              clear fr a; intro a fr
              refine fx_val (v := .int .i64 ((addr.toNat + (width.toNat - 1 - q) : Nat) : Int)) fr rfl rfl (by first | decide | simp) (x_add rfl (fr.ev rfl) (fr.ev rfl) (i64w (r := ((addr.toNat + (width.toNat - 1 - q) : Nat) : Int)) (by omega) (by omega))) ?_
              clear fr a; intro a fr
              refine fx_val (v := .pointer (some ⟨b30, 0 + (addr.toNat + (width.toNat - 1 - q)) * 1, none⟩)) fr rfl rfl (by first | decide | simp) (x_indexArr Try.underlying51 sz5 rfl (fr.ev rfl) (fr.ev rfl) (by omega) rfl) ?_
              clear fr a; intro a fr
              refine fx_val (v := .int .u8 ((wrL z (l.take i)).1.getD (addr.toNat + (width.toNat - 1 - q)) 0)) fr rfl rfl (by first | decide | simp) (x_load1 pl5 rfl (fr.ev rfl) (by rw [show (0 + (addr.toNat + (width.toNat - 1 - q)) * 1 : Nat) = addr.toNat + (width.toNat - 1 - q) by omega]; exact Z2.cell _ (b68_cell (wrL z (l.take i)) (by omega)))) ?_
              clear fr a; intro a fr
              refine fx_val (v := .int .u32 ((wrL z (l.take i)).1.getD (addr.toNat + (width.toNat - 1 - q)) 0)) fr rfl rfl (by first | decide | simp) (x_convert Try.underlying5 Try.underlying22 rfl (fr.ev rfl) (u32w (r := (wrL z (l.take i)).1.getD (addr.toNat + (width.toNat - 1 - q)) 0) rfl (by omega))) ?_
              clear fr a; intro a fr
              refine fx_val (v := .int .u32 ((rdq (wrL z (l.take i)) addr width q) * 256 + ((wrL z (l.take i)).1.getD (addr.toNat + (width.toNat - 1 - q)) 0))) fr rfl rfl (by first | decide | simp) (x_add rfl (fr.ev rfl) (fr.ev rfl) (u32w (r := (rdq (wrL z (l.take i)) addr width q) * 256 + ((wrL z (l.take i)).1.getD (addr.toNat + (width.toNat - 1 - q)) 0)) rfl (by omega))) ?_
              clear fr a; intro a fr
              refine fx_val (v := .int .u32 ((rdq (wrL z (l.take i)) addr width q) * 256 + ((wrL z (l.take i)).1.getD (addr.toNat + (width.toNat - 1 - q)) 0))) fr rfl rfl (by first | decide | simp) (x_assign rfl (fr.ev rfl)) ?_
              clear fr a; intro a fr
              refine wpList_nil ?_
              refine fx_blk ?_
              refine fx_next ?_
              rw [show ((width.toNat - 1 - q : Nat) : Int) = width - 1 - ((q : Nat) : Int) by omega] at fr
              refine wp_region_lit ?_  -- region 33
              refine fx_val (v := .int .i64 (width - 1 - ((q : Nat) : Int))) fr rfl rfl (by first | decide | simp) (x_move rfl (fr.ev rfl)) ?_
              clear fr a; intro a fr
              refine fx_val (v := .int .i64 (width - 1 - ((q + 1 : Nat) : Int))) fr rfl rfl (by first | decide | simp) (x_sub rfl (fr.ev rfl) rfl (i64w (r := width - 1 - ((q + 1 : Nat) : Int)) (by omega) (by omega))) ?_
              clear fr a; intro a fr
              refine fx_val (v := .int .i64 (width - 1 - ((q + 1 : Nat) : Int))) fr rfl rfl (by first | decide | simp) (x_assign rfl (fr.ev rfl)) ?_
              clear fr a; intro a fr
              refine wpList_nil ?_
              refine fx_next ?_
              exact ⟨_, by omega, (q + 1), rfl, fr.sub ⟨rfl, rfl, rfl, rfl, rfl, rfl, rfl, rfl, rfl, rfl, rfl, rfl, rfl, rfl, trivial⟩, hF, hV, hM, H, Z1, O49, Z2, by omega⟩
            · skip
              have hc69 := of_decide_eq_false hc69
              refine wp_exit ?_
              refine fx_xt ?_
              refine fx_xt ?_
              refine fx_xx ?_
              refine fx_next ?_
              refine wp_seq ?_
              refine wp_seq ?_
              have hqw2 : width.toNat = q := by omega
              have htl := tells z (l := l) (a := addr) (w := width) (by omega) (by omega) (by rw [hq]; omega) hl
              unfold Tells at htl
              rw [hqw2] at htl
              obtain ⟨ht1, ht0, htk⟩ := htl
              rcases htk with hk | hk | hk
              · skip
                have hnb0 : rdq (wrL z (l.take i)) addr width q = rdq z addr width q := by first | exact ht0 hk | (rw [show l.take i = l from List.take_of_length_le (by omega)]; exact ht0 hk)
                refine wp_region_lit ?_  -- region 36
                refine fx_val (v := .int .i64 ((fwd l addr width).2)) fr rfl rfl (by first | decide | simp) (x_move rfl (fr.ev rfl)) ?_
                clear fr a; intro a fr
                refine fx_val (v := .bool false) fr rfl rfl (by first | decide | simp) (x_eql rfl (fr.ev rfl) rfl (decide_eq_false (by omega))) ?_
                clear fr a; intro a fr
                refine fx_val (v := .bool false) fr rfl rfl (by first | decide | simp) (x_move rfl (fr.ev rfl)) ?_
                clear fr a; intro a fr
                refine fx_skip fr (fr.unwant rfl rfl rfl (by decide)) rfl (by first | decide | simp) ?_
                clear fr a; intro a fr
                refine fx_skip fr (fr.unwant rfl rfl rfl (by decide)) rfl (by first | decide | simp) ?_
                clear fr a; intro a fr
                refine fx_skip fr (fr.unwant rfl rfl rfl (by decide)) rfl (by first | decide | simp) ?_
                clear fr a; intro a fr
                refine fx_val (v := .bool false) fr rfl rfl (by first | decide | simp) (x_pick_f rfl (fr.ev rfl) rfl) ?_
                clear fr a; intro a fr
                refine fx_val (v := .bool false) fr rfl rfl (by first | decide | simp) (x_move rfl (fr.ev rfl)) ?_
                clear fr a; intro a fr
                refine fx_val (v := .int .i64 ((fwd l addr width).2)) fr (fr.want rfl rfl rfl) rfl (by first | decide | simp) (x_move rfl (fr.ev rfl)) ?_
                clear fr a; intro a fr
                refine fx_val (v := .bool true) fr (fr.want rfl rfl rfl) rfl (by first | decide | simp) (x_eql rfl (fr.ev rfl) rfl (decide_eq_true (by omega))) ?_
                clear fr a; intro a fr
                refine fx_val (v := .bool true) fr (fr.want rfl rfl rfl) rfl (by first | decide | simp) (x_move rfl (fr.ev rfl)) ?_
                clear fr a; intro a fr
                refine fx_val (v := .int .u32 (rdq (wrL z (l.take i)) addr width q)) fr (fr.want rfl rfl rfl) rfl (by first | decide | simp) (x_move rfl (fr.ev rfl)) ?_
                clear fr a; intro a fr
                refine fx_val (v := .int .u32 (rdq z addr width q)) fr (fr.want rfl rfl rfl) rfl (by first | decide | simp) (x_move rfl (fr.ev rfl)) ?_
                clear fr a; intro a fr
                refine fx_val (v := .bool false) fr (fr.want rfl rfl rfl) rfl (by first | decide | simp) (x_neq rfl (fr.ev rfl) (fr.ev rfl) (by simp [hnb0])) ?_
                clear fr a; intro a fr
                refine fx_val (v := .bool false) fr (fr.want rfl rfl rfl) rfl (by first | decide | simp) (x_pick_t rfl (fr.ev rfl) (fr.ev rfl)) ?_
                clear fr a; intro a fr
                refine fx_val (v := .bool false) fr rfl rfl (by first | decide | simp) (x_pick_f rfl (fr.ev rfl) (fr.ev rfl)) ?_
                clear fr a; intro a fr
                refine fx_val (v := .bool false) fr rfl rfl (by first | decide | simp) (x_move rfl (fr.ev rfl)) ?_
                clear fr a; intro a fr
                refine fx_val (v := .int .i64 ((fwd l addr width).2)) fr (fr.want rfl rfl rfl) rfl (by first | decide | simp) (x_move rfl (fr.ev rfl)) ?_
                clear fr a; intro a fr
                refine fx_val (v := .bool false) fr (fr.want rfl rfl rfl) rfl (by first | decide | simp) (x_lss rfl (fr.ev rfl) rfl (decide_eq_false (by omega))) ?_
                clear fr a; intro a fr
                refine fx_val (v := .bool false) fr rfl rfl (by first | decide | simp) (x_pick_f rfl (fr.ev rfl) (fr.ev rfl)) ?_
                clear fr a; intro a fr
                refine fx_val (v := .bool false) fr rfl rfl (by first | decide | simp) (x_move rfl (fr.ev rfl)) ?_
                clear fr a; intro a fr
                refine fx_val (v := .int .i64 ((fwd l addr width).2)) fr (fr.want rfl rfl rfl) rfl (by first | decide | simp) (x_move rfl (fr.ev rfl)) ?_
                clear fr a; intro a fr
                refine fx_val (v := .bool false) fr (fr.want rfl rfl rfl) rfl (by first | decide | simp) (x_gtr rfl (fr.ev rfl) rfl (decide_eq_false (by omega))) ?_
                clear fr a; intro a fr
                refine fx_val (v := .bool false) fr rfl rfl (by first | decide | simp) (x_pick_f rfl (fr.ev rfl) (fr.ev rfl)) ?_
                clear fr a; intro a fr
                refine wpList_nil ?_
                refine fx_next ?_
                refine fx_cond_f fr rfl ?_
                refine wp_skip ?_
                refine fx_next ?_
                refine wp_seq ?_
                refine wp_seq ?_
                refine wp_region_lit ?_  -- region 38
                refine fx_val (v := .slice A47 ((vals l).length) cap48) fr rfl rfl (by first | decide | simp) (x_move rfl (fr.ev rfl)) ?_
                clear fr a; intro a fr
                refine fx_val (v := .int .i64 (((vals l).length : Nat) : Int)) fr rfl rfl (by first | decide | simp) (x_len Try.underlying32 rfl (fr.ev rfl)) ?_
                clear fr a; intro a fr
                refine fx_val (v := .bool (decide (0 < (((vals l).length : Nat) : Int)))) fr rfl rfl (by first | decide | simp) (x_gtr rfl (fr.ev rfl) rfl rfl) ?_
                clear fr a; intro a fr
                refine wpList_nil ?_
                refine fx_next ?_
                refine fx_cond fr rfl (fun hc70 => ?_) (fun hc70 => ?_)
                · skip
                  have hc70 := of_decide_eq_true hc70
                  refine wp_seq ?_
                  have hvl := vals_len l
                  have hxe : ((vals l).getD ((vals l).length - 1) st0) = (l.getD (l.length - 1) v0).1 := by rw [hvl]; exact vals_at l _ (by omega)
                  have hfl := fwd_last (l := l) (l.length - 1) (by omega)
                  rw [← hxe] at hfl
                  have hxa := ((vals l).getD ((vals l).length - 1) st0).ha
                  refine wp_region_lit ?_  -- region 39
                  refine fx_val (v := .slice A47 ((vals l).length) cap48) fr rfl rfl (by first | decide | simp) (x_move rfl (fr.ev rfl)) ?_
                  clear fr a; intro a fr
                  refine fx_val (v := .slice A47 ((vals l).length) cap48) fr rfl rfl (by first | decide | simp) (x_move rfl (fr.ev rfl)) ?_
                  clear fr a; intro a fr
                  refine fx_val (v := .int .i64 (((vals l).length : Nat) : Int)) fr rfl rfl (by first | decide | simp) (x_len Try.underlying32 rfl (fr.ev rfl)) ?_
                  clear fr a; intro a fr
                  refine fx_val (v := .int .i64 (((vals l).length - 1 : Nat) : Int)) fr rfl rfl (by first | decide | simp) (x_sub rfl (fr.ev rfl) rfl (i64w (r := (((vals l).length - 1 : Nat) : Int)) (by omega) (by omega))) ?_
                  clear fr a; intro a fr
                  obtain ⟨g71, o72, hA73⟩ := (O49.view).some_ (by omega)
                  refine fx_val (v := .pointer (some ⟨g71, o72 + ((vals l).length - 1) * 3, none⟩)) fr rfl rfl (by first | decide | simp) (x_indexV Try.underlying32 sz24 rfl (fr.ev rfl) hA73 (fr.ev rfl) (by omega) rfl) ?_
                  clear fr a; intro a fr
                  refine fx_val (v := .agg (stE.arr ((vals l).getD ((vals l).length - 1) st0))) fr rfl rfl (by first | decide | simp) (x_loadE (E := stE) ag24 rfl rfl (fr.ev rfl) ((O49.view).elem hA73 ((vals l).length - 1) st0 (by omega))) ?_
                  clear fr a; intro a fr
                  refine fx_new fr rfl rfl (by first | decide | simp) (x_alloc (z := .agg (#[.int .u32 0, .int .i64 0, .int .u32 0])) (cs := stE.arr st0) rfl (by kernel_rfl) rfl) ?_
                  clear fr a
                  intro b74 w75 hN76 B77 hb78 a fr
                  have ap_P_b74 : Apart P b74 := hV.apart hb78
                  have ap_M_b74 : Apart M b74 := hM.apart hb78
                  have ne_b4_b74 : NE b4 b74 := NE.mk (Nat.lt_of_lt_of_le H.lt hb78)
                  have ne_b25_b74 : NE b25 b74 := NE.mk (Nat.lt_of_lt_of_le Z1.lt hb78)
                  have ap_A47_b74 : Apart A47 b74 := O49.apart hb78
                  have ne_b30_b74 : NE b30 b74 := NE.mk (Nat.lt_of_lt_of_le Z2.lt hb78)
                  have g_b74 := Nat.le_trans hF.size hb78
                  replace hV := hV.new hN76
                  replace hM := hM.new hN76
                  replace H := H.new hN76
                  replace Z1 := Z1.new hN76
                  replace O49 := O49.new hN76
                  replace Z2 := Z2.new hN76
                  replace hF := hF.trNew hN76
                  refine fx_storeS sz24 rfl rfl rfl (fr.ev rfl) (fr.ev rfl) (stE.all _) B77 (stE.size _) (stE.size _) fun w79 hO80 hBq => ?_
                  replace hV := hV.only hO80 (Apart.ne1 ap_P_b74)
                  replace hM := hM.only hO80 (Apart.ne1 ap_M_b74)
                  replace H := H.only hO80 (by first | exact ne_b4_b74 | exact ne_b74_b4.symm | (show ¬ b4 = b74; omega))
                  replace Z1 := Z1.only hO80 (by first | exact ne_b25_b74 | exact ne_b74_b25.symm | (show ¬ b25 = b74; omega))
                  replace O49 := O49.only hO80 (Apart.ne1 ap_A47_b74)
                  replace Z2 := Z2.only hO80 (by first | exact ne_b30_b74 | exact ne_b74_b30.symm | (show ¬ b30 = b74; omega))
                  replace hF := hF.loc hO80 (.inr g_b74)
                  replace B77 := hBq
                  clear hBq
                  refine wpList_nil ?_
                  refine fx_next ?_
                  refine wp_seq ?_
                  refine wp_region_lit ?_  -- region 40
                  refine fx_val (v := .pointer (some ⟨b4, 0, none⟩)) fr rfl rfl (by first | decide | simp) (x_move rfl (fr.ev rfl)) ?_
                  clear fr a; intro a fr
                  refine fx_val (v := .pointer (some ⟨b74, 0, none⟩)) fr rfl rfl (by first | decide | simp) (x_fieldAddr fo24_0 rfl (fr.ev rfl) rfl) ?_
                  clear fr a; intro a fr
                  refine fx_val (v := .int .u32 (((vals l).getD ((vals l).length - 1) st0).addr)) fr rfl rfl (by first | decide | simp) (x_load1 pl22 rfl (fr.ev rfl) (B77.cell 0 rfl)) ?_
                  clear fr a; intro a fr
                  refine fx_val (v := .pointer (some ⟨b74, 1, none⟩)) fr rfl rfl (by first | decide | simp) (x_fieldAddr fo24_1 rfl (fr.ev rfl) rfl) ?_
                  clear fr a; intro a fr
                  refine fx_val (v := .int .i64 (((vals l).getD ((vals l).length - 1) st0).width)) fr rfl rfl (by first | decide | simp) (x_load1 pl3 rfl (fr.ev rfl) (B77.cell 1 rfl)) ?_
                  clear fr a; intro a fr
                  refine fx_call fr rfl rfl (by first | decide | simp) (x_call (vs := [.pointer (some ⟨b4, 0, none⟩), .int .u32 (((vals l).getD ((vals l).length - 1) st0).addr), .int .i64 (((vals l).getD ((vals l).length - 1) st0).width)]) rfl rfl ⟨(fr.ev rfl), (fr.ev rfl), (fr.ev rfl), trivial⟩ Try.func11 nm11 rfl) (forward_c H (((vals l).getD ((vals l).length - 1) st0).addr) (((vals l).getD ((vals l).length - 1) st0).width) (by omega)) ?_
                  clear fr a
                  rintro v w81 ⟨rfl, hN82⟩ a fr
                  replace hV := hV.new hN82
                  replace hM := hM.new hN82
                  replace H := H.new hN82
                  replace Z1 := Z1.new hN82
                  replace O49 := O49.new hN82
                  replace Z2 := Z2.new hN82
                  replace B77 := B77.new hN82
                  replace hF := hF.trNew hN82
                  rw [hfl] at fr
                  refine fx_val (v := .tuple #[.int .u32 (((vals l).getD ((vals l).length - 1) st0).value), .int .i64 1]) fr rfl rfl (by first | decide | simp) (x_move rfl (fr.ev rfl)) ?_
                  clear fr a; intro a fr
                  refine fx_val (v := .int .u32 (((vals l).getD ((vals l).length - 1) st0).value)) fr rfl rfl (by first | decide | simp) (x_extract rfl (fr.ev rfl) rfl) ?_
                  clear fr a; intro a fr
                  refine fx_val (v := .int .i64 1) fr rfl rfl (by first | decide | simp) (x_extract rfl (fr.ev rfl) rfl) ?_
                  clear fr a; intro a fr
                  refine fx_val (v := .int .u32 (((vals l).getD ((vals l).length - 1) st0).value)) fr rfl rfl (by first | decide | simp) (x_assign rfl (fr.ev rfl)) ?_
                  clear fr a; intro a fr
                  refine fx_val (v := .int .i64 1) fr rfl rfl (by first | decide | simp) (x_assign rfl (fr.ev rfl)) ?_
                  clear fr a; intro a fr
                  refine wpList_nil ?_
                  refine fx_next ?_
                  refine wp_seq ?_
                  refine wp_region_lit ?_  -- region 41
                  refine fx_val (v := .int .u32 (((vals l).getD ((vals l).length - 1) st0).value)) fr rfl rfl (by first | decide | simp) (x_move rfl (fr.ev rfl)) ?_
                  clear fr a; intro a fr
                  refine fx_val (v := .pointer (some ⟨b74, 2, none⟩)) fr rfl rfl (by first | decide | simp) (x_fieldAddr fo24_2 rfl (fr.ev rfl) rfl) ?_
                  clear fr a; intro a fr
                  refine fx_val (v := .int .u32 (((vals l).getD ((vals l).length - 1) st0).value)) fr rfl rfl (by first | decide | simp) (x_load1 pl22 rfl (fr.ev rfl) (B77.cell 2 rfl)) ?_
                  clear fr a; intro a fr
                  refine fx_val (v := .bool false) fr rfl rfl (by first | decide | simp) (x_neq rfl (fr.ev rfl) (fr.ev rfl) (by simp)) ?_
                  clear fr a; intro a fr
                  refine fx_val (v := .bool false) fr rfl rfl (by first | decide | simp) (x_move rfl (fr.ev rfl)) ?_
                  clear fr a; intro a fr
                  refine fx_val (v := .int .i64 1) fr (fr.want rfl rfl rfl) rfl (by first | decide | simp) (x_move rfl (fr.ev rfl)) ?_
                  clear fr a; intro a fr
                  refine fx_val (v := .bool false) fr (fr.want rfl rfl rfl) rfl (by first | decide | simp) (x_neq rfl (fr.ev rfl) rfl rfl) ?_
                  clear fr a; intro a fr
                  refine fx_val (v := .bool false) fr rfl rfl (by first | decide | simp) (x_pick_f rfl (fr.ev rfl) (fr.ev rfl)) ?_
                  clear fr a; intro a fr
                  refine wpList_nil ?_
                  refine fx_next ?_
                  refine fx_cond_f fr rfl ?_
                  refine wp_skip ?_
                  refine fx_next ?_
                  refine wp_seq ?_
                  refine wp_region_lit ?_  -- region 43
                  refine fx_call fr rfl rfl (by first | decide | simp) (x_call (vs := []) rfl rfl trivial Try.func15 nm15 rfl) (works_c _) ?_
                  clear fr a
                  rintro v w83 ⟨rfl, hN84⟩ a fr
                  replace hV := hV.new hN84
                  replace hM := hM.new hN84
                  replace H := H.new hN84
                  replace Z1 := Z1.new hN84
                  replace O49 := O49.new hN84
                  replace Z2 := Z2.new hN84
                  replace B77 := B77.new hN84
                  replace hF := hF.trNew hN84
                  refine fx_val (v := .bool true) fr rfl rfl (by first | decide | simp) (x_assign rfl (fr.ev rfl)) ?_
                  clear fr a; intro a fr
                  refine wpList_nil ?_
                  refine fx_next ?_
                  refine wp_ret ?_
                  refine fx_ret fr [.tmp 8] [.bool true] rfl ⟨rfl, trivial⟩ rfl ?_
                  exact ⟨_, rfl, rfl, hF⟩
                · skip
                  have hc70 := of_decide_eq_false hc70
                  refine wp_skip ?_
                  refine fx_next ?_
                  refine wp_seq ?_
                  refine wp_region_lit ?_  -- region 43
                  refine fx_call fr rfl rfl (by first | decide | simp) (x_call (vs := []) rfl rfl trivial Try.func15 nm15 rfl) (works_c _) ?_
                  clear fr a
                  rintro v w85 ⟨rfl, hN86⟩ a fr
                  replace hV := hV.new hN86
                  replace hM := hM.new hN86
                  replace H := H.new hN86
                  replace Z1 := Z1.new hN86
                  replace O49 := O49.new hN86
                  replace Z2 := Z2.new hN86
                  replace hF := hF.trNew hN86
                  refine fx_val (v := .bool true) fr rfl rfl (by first | decide | simp) (x_assign rfl (fr.ev rfl)) ?_
                  clear fr a; intro a fr
                  refine wpList_nil ?_
                  refine fx_next ?_
                  refine wp_ret ?_
                  refine fx_ret fr [.tmp 8] [.bool true] rfl ⟨rfl, trivial⟩ rfl ?_
                  exact ⟨_, rfl, rfl, hF⟩
              · skip
                have hnb1 : (fwd l addr width).1 = rdq (wrL z (l.take i)) addr width q := by first | exact ht1 hk | (rw [show l.take i = l from List.take_of_length_le (by omega)]; exact ht1 hk)
                refine wp_region_lit ?_  -- region 36
                refine fx_val (v := .int .i64 ((fwd l addr width).2)) fr rfl rfl (by first | decide | simp) (x_move rfl (fr.ev rfl)) ?_
                clear fr a; intro a fr
                refine fx_val (v := .bool true) fr rfl rfl (by first | decide | simp) (x_eql rfl (fr.ev rfl) rfl (decide_eq_true (by omega))) ?_
                clear fr a; intro a fr
                refine fx_val (v := .bool true) fr rfl rfl (by first | decide | simp) (x_move rfl (fr.ev rfl)) ?_
                clear fr a; intro a fr
                refine fx_val (v := .int .u32 ((fwd l addr width).1)) fr (fr.want rfl rfl rfl) rfl (by first | decide | simp) (x_move rfl (fr.ev rfl)) ?_
                clear fr a; intro a fr
                refine fx_val (v := .int .u32 (rdq (wrL z (l.take i)) addr width q)) fr (fr.want rfl rfl rfl) rfl (by first | decide | simp) (x_move rfl (fr.ev rfl)) ?_
                clear fr a; intro a fr
                refine fx_val (v := .bool false) fr (fr.want rfl rfl rfl) rfl (by first | decide | simp) (x_neq rfl (fr.ev rfl) (fr.ev rfl) (by simp [hnb1])) ?_
                clear fr a; intro a fr
                refine fx_val (v := .bool false) fr rfl rfl (by first | decide | simp) (x_pick_t rfl (fr.ev rfl) (fr.ev rfl)) ?_
                clear fr a; intro a fr
                refine fx_val (v := .bool false) fr rfl rfl (by first | decide | simp) (x_move rfl (fr.ev rfl)) ?_
                clear fr a; intro a fr
                refine fx_val (v := .int .i64 ((fwd l addr width).2)) fr (fr.want rfl rfl rfl) rfl (by first | decide | simp) (x_move rfl (fr.ev rfl)) ?_
                clear fr a; intro a fr
                refine fx_val (v := .bool false) fr (fr.want rfl rfl rfl) rfl (by first | decide | simp) (x_eql rfl (fr.ev rfl) rfl (decide_eq_false (by omega))) ?_
                clear fr a; intro a fr
                refine fx_val (v := .bool false) fr (fr.want rfl rfl rfl) rfl (by first | decide | simp) (x_move rfl (fr.ev rfl)) ?_
                clear fr a; intro a fr
                refine fx_skip fr (fr.unwant rfl rfl rfl (by decide)) rfl (by first | decide | simp) ?_
                clear fr a; intro a fr
                refine fx_skip fr (fr.unwant rfl rfl rfl (by decide)) rfl (by first | decide | simp) ?_
                clear fr a; intro a fr
                refine fx_skip fr (fr.unwant rfl rfl rfl (by decide)) rfl (by first | decide | simp) ?_
                clear fr a; intro a fr
                refine fx_val (v := .bool false) fr (fr.want rfl rfl rfl) rfl (by first | decide | simp) (x_pick_f rfl (fr.ev rfl) rfl) ?_
                clear fr a; intro a fr
                refine fx_val (v := .bool false) fr rfl rfl (by first | decide | simp) (x_pick_f rfl (fr.ev rfl) (fr.ev rfl)) ?_
                clear fr a; intro a fr
                refine fx_val (v := .bool false) fr rfl rfl (by first | decide | simp) (x_move rfl (fr.ev rfl)) ?_
                clear fr a; intro a fr
                refine fx_val (v := .int .i64 ((fwd l addr width).2)) fr (fr.want rfl rfl rfl) rfl (by first | decide | simp) (x_move rfl (fr.ev rfl)) ?_
                clear fr a; intro a fr
                refine fx_val (v := .bool false) fr (fr.want rfl rfl rfl) rfl (by first | decide | simp) (x_lss rfl (fr.ev rfl) rfl (decide_eq_false (by omega))) ?_
                clear fr a; intro a fr
                refine fx_val (v := .bool false) fr rfl rfl (by first | decide | simp) (x_pick_f rfl (fr.ev rfl) (fr.ev rfl)) ?_
                clear fr a; intro a fr
                refine fx_val (v := .bool false) fr rfl rfl (by first | decide | simp) (x_move rfl (fr.ev rfl)) ?_
                clear fr a; intro a fr
                refine fx_val (v := .int .i64 ((fwd l addr width).2)) fr (fr.want rfl rfl rfl) rfl (by first | decide | simp) (x_move rfl (fr.ev rfl)) ?_
                clear fr a; intro a fr
                refine fx_val (v := .bool false) fr (fr.want rfl rfl rfl) rfl (by first | decide | simp) (x_gtr rfl (fr.ev rfl) rfl (decide_eq_false (by omega))) ?_
                clear fr a; intro a fr
                refine fx_val (v := .bool false) fr rfl rfl (by first | decide | simp) (x_pick_f rfl (fr.ev rfl) (fr.ev rfl)) ?_
                clear fr a; intro a fr
                refine wpList_nil ?_
                refine fx_next ?_
                refine fx_cond_f fr rfl ?_
                refine wp_skip ?_
                refine fx_next ?_
                refine wp_seq ?_
                refine wp_seq ?_
                refine wp_region_lit ?_  -- region 38
                refine fx_val (v := .slice A47 ((vals l).length) cap48) fr rfl rfl (by first | decide | simp) (x_move rfl (fr.ev rfl)) ?_
                clear fr a; intro a fr
                refine fx_val (v := .int .i64 (((vals l).length : Nat) : Int)) fr rfl rfl (by first | decide | simp) (x_len Try.underlying32 rfl (fr.ev rfl)) ?_
                clear fr a; intro a fr
                refine fx_val (v := .bool (decide (0 < (((vals l).length : Nat) : Int)))) fr rfl rfl (by first | decide | simp) (x_gtr rfl (fr.ev rfl) rfl rfl) ?_
                clear fr a; intro a fr
                refine wpList_nil ?_
                refine fx_next ?_
                refine fx_cond fr rfl (fun hc87 => ?_) (fun hc87 => ?_)
                · skip
                  have hc87 := of_decide_eq_true hc87
                  refine wp_seq ?_
                  have hvl := vals_len l
                  have hxe : ((vals l).getD ((vals l).length - 1) st0) = (l.getD (l.length - 1) v0).1 := by rw [hvl]; exact vals_at l _ (by omega)
                  have hfl := fwd_last (l := l) (l.length - 1) (by omega)
                  rw [← hxe] at hfl
                  have hxa := ((vals l).getD ((vals l).length - 1) st0).ha
                  refine wp_region_lit ?_  -- region 39
                  refine fx_val (v := .slice A47 ((vals l).length) cap48) fr rfl rfl (by first | decide | simp) (x_move rfl (fr.ev rfl)) ?_
                  clear fr a; intro a fr
                  refine fx_val (v := .slice A47 ((vals l).length) cap48) fr rfl rfl (by first | decide | simp) (x_move rfl (fr.ev rfl)) ?_
                  clear fr a; intro a fr
                  refine fx_val (v := .int .i64 (((vals l).length : Nat) : Int)) fr rfl rfl (by first | decide | simp) (x_len Try.underlying32 rfl (fr.ev rfl)) ?_
                  clear fr a; intro a fr
                  refine fx_val (v := .int .i64 (((vals l).length - 1 : Nat) : Int)) fr rfl rfl (by first | decide | simp) (x_sub rfl (fr.ev rfl) rfl (i64w (r := (((vals l).length - 1 : Nat) : Int)) (by omega) (by omega))) ?_
                  clear fr a; intro a fr
                  obtain ⟨g88, o89, hA90⟩ := (O49.view).some_ (by omega)
                  refine fx_val (v := .pointer (some ⟨g88, o89 + ((vals l).length - 1) * 3, none⟩)) fr rfl rfl (by first | decide | simp) (x_indexV Try.underlying32 sz24 rfl (fr.ev rfl) hA90 (fr.ev rfl) (by omega) rfl) ?_
                  clear fr a; intro a fr
                  refine fx_val (v := .agg (stE.arr ((vals l).getD ((vals l).length - 1) st0))) fr rfl rfl (by first | decide | simp) (x_loadE (E := stE) ag24 rfl rfl (fr.ev rfl) ((O49.view).elem hA90 ((vals l).length - 1) st0 (by omega))) ?_
                  clear fr a; intro a fr
                  refine fx_new fr rfl rfl (by first | decide | simp) (x_alloc (z := .agg (#[.int .u32 0, .int .i64 0, .int .u32 0])) (cs := stE.arr st0) rfl (by kernel_rfl) rfl) ?_
                  clear fr a
                  intro b91 w92 hN93 B94 hb95 a fr
                  have ap_P_b91 : Apart P b91 := hV.apart hb95
                  have ap_M_b91 : Apart M b91 := hM.apart hb95
                  have ne_b4_b91 : NE b4 b91 := NE.mk (Nat.lt_of_lt_of_le H.lt hb95)
                  have ne_b25_b91 : NE b25 b91 := NE.mk (Nat.lt_of_lt_of_le Z1.lt hb95)
                  have ap_A47_b91 : Apart A47 b91 := O49.apart hb95
                  have ne_b30_b91 : NE b30 b91 := NE.mk (Nat.lt_of_lt_of_le Z2.lt hb95)
                  have g_b91 := Nat.le_trans hF.size hb95
                  replace hV := hV.new hN93
                  replace hM := hM.new hN93
                  replace H := H.new hN93
                  replace Z1 := Z1.new hN93
                  replace O49 := O49.new hN93
                  replace Z2 := Z2.new hN93
                  replace hF := hF.trNew hN93
                  refine fx_storeS sz24 rfl rfl rfl (fr.ev rfl) (fr.ev rfl) (stE.all _) B94 (stE.size _) (stE.size _) fun w96 hO97 hBq => ?_
                  replace hV := hV.only hO97 (Apart.ne1 ap_P_b91)
                  replace hM := hM.only hO97 (Apart.ne1 ap_M_b91)
                  replace H := H.only hO97 (by first | exact ne_b4_b91 | exact ne_b91_b4.symm | (show ¬ b4 = b91; omega))
                  replace Z1 := Z1.only hO97 (by first | exact ne_b25_b91 | exact ne_b91_b25.symm | (show ¬ b25 = b91; omega))
                  replace O49 := O49.only hO97 (Apart.ne1 ap_A47_b91)
                  replace Z2 := Z2.only hO97 (by first | exact ne_b30_b91 | exact ne_b91_b30.symm | (show ¬ b30 = b91; omega))
                  replace hF := hF.loc hO97 (.inr g_b91)
                  replace B94 := hBq
                  clear hBq
                  refine wpList_nil ?_
                  refine fx_next ?_
                  refine wp_seq ?_
                  refine wp_region_lit ?_  -- region 40
                  refine fx_val (v := .pointer (some ⟨b4, 0, none⟩)) fr rfl rfl (by first | decide | simp) (x_move rfl (fr.ev rfl)) ?_
                  clear fr a; intro a fr
                  refine fx_val (v := .pointer (some ⟨b91, 0, none⟩)) fr rfl rfl (by first | decide | simp) (x_fieldAddr fo24_0 rfl (fr.ev rfl) rfl) ?_
                  clear fr a; intro a fr
                  refine fx_val (v := .int .u32 (((vals l).getD ((vals l).length - 1) st0).addr)) fr rfl rfl (by first | decide | simp) (x_load1 pl22 rfl (fr.ev rfl) (B94.cell 0 rfl)) ?_
                  clear fr a; intro a fr
                  refine fx_val (v := .pointer (some ⟨b91, 1, none⟩)) fr rfl rfl (by first | decide | simp) (x_fieldAddr fo24_1 rfl (fr.ev rfl) rfl) ?_
                  clear fr a; intro a fr
                  refine fx_val (v := .int .i64 (((vals l).getD ((vals l).length - 1) st0).width)) fr rfl rfl (by first | decide | simp) (x_load1 pl3 rfl (fr.ev rfl) (B94.cell 1 rfl)) ?_
                  clear fr a; intro a fr
                  refine fx_call fr rfl rfl (by first | decide | simp) (x_call (vs := [.pointer (some ⟨b4, 0, none⟩), .int .u32 (((vals l).getD ((vals l).length - 1) st0).addr), .int .i64 (((vals l).getD ((vals l).length - 1) st0).width)]) rfl rfl ⟨(fr.ev rfl), (fr.ev rfl), (fr.ev rfl), trivial⟩ Try.func11 nm11 rfl) (forward_c H (((vals l).getD ((vals l).length - 1) st0).addr) (((vals l).getD ((vals l).length - 1) st0).width) (by omega)) ?_
                  clear fr a
                  rintro v w98 ⟨rfl, hN99⟩ a fr
                  replace hV := hV.new hN99
                  replace hM := hM.new hN99
                  replace H := H.new hN99
                  replace Z1 := Z1.new hN99
                  replace O49 := O49.new hN99
                  replace Z2 := Z2.new hN99
                  replace B94 := B94.new hN99
                  replace hF := hF.trNew hN99
                  rw [hfl] at fr
                  refine fx_val (v := .tuple #[.int .u32 (((vals l).getD ((vals l).length - 1) st0).value), .int .i64 1]) fr rfl rfl (by first | decide | simp) (x_move rfl (fr.ev rfl)) ?_
                  clear fr a; intro a fr
                  refine fx_val (v := .int .u32 (((vals l).getD ((vals l).length - 1) st0).value)) fr rfl rfl (by first | decide | simp) (x_extract rfl (fr.ev rfl) rfl) ?_
                  clear fr a; intro a fr
                  refine fx_val (v := .int .i64 1) fr rfl rfl (by first | decide | simp) (x_extract rfl (fr.ev rfl) rfl) ?_
                  clear fr a; intro a fr
                  refine fx_val (v := .int .u32 (((vals l).getD ((vals l).length - 1) st0).value)) fr rfl rfl (by first | decide | simp) (x_assign rfl (fr.ev rfl)) ?_
                  clear fr a; intro a fr
                  refine fx_val (v := .int .i64 1) fr rfl rfl (by first | decide | simp) (x_assign rfl (fr.ev rfl)) ?_
                  clear fr a; intro a fr
                  refine wpList_nil ?_
                  refine fx_next ?_
                  refine wp_seq ?_
                  refine wp_region_lit ?_  -- region 41
                  refine fx_val (v := .int .u32 (((vals l).getD ((vals l).length - 1) st0).value)) fr rfl rfl (by first | decide | simp) (x_move rfl (fr.ev rfl)) ?_
                  clear fr a; intro a fr
                  refine fx_val (v := .pointer (some ⟨b91, 2, none⟩)) fr rfl rfl (by first | decide | simp) (x_fieldAddr fo24_2 rfl (fr.ev rfl) rfl) ?_
                  clear fr a; intro a fr
                  refine fx_val (v := .int .u32 (((vals l).getD ((vals l).length - 1) st0).value)) fr rfl rfl (by first | decide | simp) (x_load1 pl22 rfl (fr.ev rfl) (B94.cell 2 rfl)) ?_
                  clear fr a; intro a fr
                  refine fx_val (v := .bool false) fr rfl rfl (by first | decide | simp) (x_neq rfl (fr.ev rfl) (fr.ev rfl) (by simp)) ?_
                  clear fr a; intro a fr
                  refine fx_val (v := .bool false) fr rfl rfl (by first | decide | simp) (x_move rfl (fr.ev rfl)) ?_
                  clear fr a; intro a fr
                  refine fx_val (v := .int .i64 1) fr (fr.want rfl rfl rfl) rfl (by first | decide | simp) (x_move rfl (fr.ev rfl)) ?_
                  clear fr a; intro a fr
                  refine fx_val (v := .bool false) fr (fr.want rfl rfl rfl) rfl (by first | decide | simp) (x_neq rfl (fr.ev rfl) rfl rfl) ?_
                  clear fr a; intro a fr
                  refine fx_val (v := .bool false) fr rfl rfl (by first | decide | simp) (x_pick_f rfl (fr.ev rfl) (fr.ev rfl)) ?_
                  clear fr a; intro a fr
                  refine wpList_nil ?_
                  refine fx_next ?_
                  refine fx_cond_f fr rfl ?_
                  refine wp_skip ?_
                  refine fx_next ?_
                  refine wp_seq ?_
                  refine wp_region_lit ?_  -- region 43
                  refine fx_call fr rfl rfl (by first | decide | simp) (x_call (vs := []) rfl rfl trivial Try.func15 nm15 rfl) (works_c _) ?_
                  clear fr a
                  rintro v w100 ⟨rfl, hN101⟩ a fr
                  replace hV := hV.new hN101
                  replace hM := hM.new hN101
                  replace H := H.new hN101
                  replace Z1 := Z1.new hN101
                  replace O49 := O49.new hN101
                  replace Z2 := Z2.new hN101
                  replace B94 := B94.new hN101
                  replace hF := hF.trNew hN101
                  refine fx_val (v := .bool true) fr rfl rfl (by first | decide | simp) (x_assign rfl (fr.ev rfl)) ?_
                  clear fr a; intro a fr
                  refine wpList_nil ?_
                  refine fx_next ?_
                  refine wp_ret ?_
                  refine fx_ret fr [.tmp 8] [.bool true] rfl ⟨rfl, trivial⟩ rfl ?_
                  exact ⟨_, rfl, rfl, hF⟩
                · skip
                  have hc87 := of_decide_eq_false hc87
                  refine wp_skip ?_
                  refine fx_next ?_
                  refine wp_seq ?_
                  refine wp_region_lit ?_  -- region 43
                  refine fx_call fr rfl rfl (by first | decide | simp) (x_call (vs := []) rfl rfl trivial Try.func15 nm15 rfl) (works_c _) ?_
                  clear fr a
                  rintro v w102 ⟨rfl, hN103⟩ a fr
                  replace hV := hV.new hN103
                  replace hM := hM.new hN103
                  replace H := H.new hN103
                  replace Z1 := Z1.new hN103
                  replace O49 := O49.new hN103
                  replace Z2 := Z2.new hN103
                  replace hF := hF.trNew hN103
                  refine fx_val (v := .bool true) fr rfl rfl (by first | decide | simp) (x_assign rfl (fr.ev rfl)) ?_
                  clear fr a; intro a fr
                  refine wpList_nil ?_
                  refine fx_next ?_
                  refine wp_ret ?_
                  refine fx_ret fr [.tmp 8] [.bool true] rfl ⟨rfl, trivial⟩ rfl ?_
                  exact ⟨_, rfl, rfl, hF⟩
              · skip
                refine wp_region_lit ?_  -- region 36
                refine fx_val (v := .int .i64 ((fwd l addr width).2)) fr rfl rfl (by first | decide | simp) (x_move rfl (fr.ev rfl)) ?_
                clear fr a; intro a fr
                refine fx_val (v := .bool false) fr rfl rfl (by first | decide | simp) (x_eql rfl (fr.ev rfl) rfl (decide_eq_false (by omega))) ?_
                clear fr a; intro a fr
                refine fx_val (v := .bool false) fr rfl rfl (by first | decide | simp) (x_move rfl (fr.ev rfl)) ?_
                clear fr a; intro a fr
                refine fx_skip fr (fr.unwant rfl rfl rfl (by decide)) rfl (by first | decide | simp) ?_
                clear fr a; intro a fr
                refine fx_skip fr (fr.unwant rfl rfl rfl (by decide)) rfl (by first | decide | simp) ?_
                clear fr a; intro a fr
                refine fx_skip fr (fr.unwant rfl rfl rfl (by decide)) rfl (by first | decide | simp) ?_
                clear fr a; intro a fr
                refine fx_val (v := .bool false) fr rfl rfl (by first | decide | simp) (x_pick_f rfl (fr.ev rfl) rfl) ?_
                clear fr a; intro a fr
                refine fx_val (v := .bool false) fr rfl rfl (by first | decide | simp) (x_move rfl (fr.ev rfl)) ?_
                clear fr a; intro a fr
                refine fx_val (v := .int .i64 ((fwd l addr width).2)) fr (fr.want rfl rfl rfl) rfl (by first | decide | simp) (x_move rfl (fr.ev rfl)) ?_
                clear fr a; intro a fr
                refine fx_val (v := .bool false) fr (fr.want rfl rfl rfl) rfl (by first | decide | simp) (x_eql rfl (fr.ev rfl) rfl (decide_eq_false (by omega))) ?_
                clear fr a; intro a fr
                refine fx_val (v := .bool false) fr (fr.want rfl rfl rfl) rfl (by first | decide | simp) (x_move rfl (fr.ev rfl)) ?_
                clear fr a; intro a fr
                refine fx_skip fr (fr.unwant rfl rfl rfl (by decide)) rfl (by first | decide | simp) ?_
                clear fr a; intro a fr
                refine fx_skip fr (fr.unwant rfl rfl rfl (by decide)) rfl (by first | decide | simp) ?_
                clear fr a; intro a fr
                refine fx_skip fr (fr.unwant rfl rfl rfl (by decide)) rfl (by first | decide | simp) ?_
                clear fr a; intro a fr
                refine fx_val (v := .bool false) fr (fr.want rfl rfl rfl) rfl (by first | decide | simp) (x_pick_f rfl (fr.ev rfl) rfl) ?_
                clear fr a; intro a fr
                refine fx_val (v := .bool false) fr rfl rfl (by first | decide | simp) (x_pick_f rfl (fr.ev rfl) (fr.ev rfl)) ?_
                clear fr a; intro a fr
                refine fx_val (v := .bool false) fr rfl rfl (by first | decide | simp) (x_move rfl (fr.ev rfl)) ?_
                clear fr a; intro a fr
                refine fx_val (v := .int .i64 ((fwd l addr width).2)) fr (fr.want rfl rfl rfl) rfl (by first | decide | simp) (x_move rfl (fr.ev rfl)) ?_
                clear fr a; intro a fr
                refine fx_val (v := .bool false) fr (fr.want rfl rfl rfl) rfl (by first | decide | simp) (x_lss rfl (fr.ev rfl) rfl (decide_eq_false (by omega))) ?_
                clear fr a; intro a fr
                refine fx_val (v := .bool false) fr rfl rfl (by first | decide | simp) (x_pick_f rfl (fr.ev rfl) (fr.ev rfl)) ?_
                clear fr a; intro a fr
                refine fx_val (v := .bool false) fr rfl rfl (by first | decide | simp) (x_move rfl (fr.ev rfl)) ?_
                clear fr a; intro a fr
                refine fx_val (v := .int .i64 ((fwd l addr width).2)) fr (fr.want rfl rfl rfl) rfl (by first | decide | simp) (x_move rfl (fr.ev rfl)) ?_
                clear fr a; intro a fr
                refine fx_val (v := .bool false) fr (fr.want rfl rfl rfl) rfl (by first | decide | simp) (x_gtr rfl (fr.ev rfl) rfl (decide_eq_false (by omega))) ?_
                clear fr a; intro a fr
                refine fx_val (v := .bool false) fr rfl rfl (by first | decide | simp) (x_pick_f rfl (fr.ev rfl) (fr.ev rfl)) ?_
                clear fr a; intro a fr
                refine wpList_nil ?_
                refine fx_next ?_
                refine fx_cond_f fr rfl ?_
                refine wp_skip ?_
                refine fx_next ?_
                refine wp_seq ?_
                refine wp_seq ?_
                refine wp_region_lit ?_  -- region 38
                refine fx_val (v := .slice A47 ((vals l).length) cap48) fr rfl rfl (by first | decide | simp) (x_move rfl (fr.ev rfl)) ?_
                clear fr a; intro a fr
                refine fx_val (v := .int .i64 (((vals l).length : Nat) : Int)) fr rfl rfl (by first | decide | simp) (x_len Try.underlying32 rfl (fr.ev rfl)) ?_
                clear fr a; intro a fr
                refine fx_val (v := .bool (decide (0 < (((vals l).length : Nat) : Int)))) fr rfl rfl (by first | decide | simp) (x_gtr rfl (fr.ev rfl) rfl rfl) ?_
                clear fr a; intro a fr
                refine wpList_nil ?_
                refine fx_next ?_
                refine fx_cond fr rfl (fun hc104 => ?_) (fun hc104 => ?_)
                · skip
                  have hc104 := of_decide_eq_true hc104
                  refine wp_seq ?_
                  have hvl := vals_len l
                  have hxe : ((vals l).getD ((vals l).length - 1) st0) = (l.getD (l.length - 1) v0).1 := by rw [hvl]; exact vals_at l _ (by omega)
                  have hfl := fwd_last (l := l) (l.length - 1) (by omega)
                  rw [← hxe] at hfl
                  have hxa := ((vals l).getD ((vals l).length - 1) st0).ha
                  refine wp_region_lit ?_  -- region 39
                  refine fx_val (v := .slice A47 ((vals l).length) cap48) fr rfl rfl (by first | decide | simp) (x_move rfl (fr.ev rfl)) ?_
                  clear fr a; intro a fr
                  refine fx_val (v := .slice A47 ((vals l).length) cap48) fr rfl rfl (by first | decide | simp) (x_move rfl (fr.ev rfl)) ?_
                  clear fr a; intro a fr
                  refine fx_val (v := .int .i64 (((vals l).length : Nat) : Int)) fr rfl rfl (by first | decide | simp) (x_len Try.underlying32 rfl (fr.ev rfl)) ?_
                  clear fr a; intro a fr
                  refine fx_val (v := .int .i64 (((vals l).length - 1 : Nat) : Int)) fr rfl rfl (by first | decide | simp) (x_sub rfl (fr.ev rfl) rfl (i64w (r := (((vals l).length - 1 : Nat) : Int)) (by omega) (by omega))) ?_
                  clear fr a; intro a fr
                  obtain ⟨g105, o106, hA107⟩ := (O49.view).some_ (by omega)
                  refine fx_val (v := .pointer (some ⟨g105, o106 + ((vals l).length - 1) * 3, none⟩)) fr rfl rfl (by first | decide | simp) (x_indexV Try.underlying32 sz24 rfl (fr.ev rfl) hA107 (fr.ev rfl) (by omega) rfl) ?_
                  clear fr a; intro a fr
                  refine fx_val (v := .agg (stE.arr ((vals l).getD ((vals l).length - 1) st0))) fr rfl rfl (by first | decide | simp) (x_loadE (E := stE) ag24 rfl rfl (fr.ev rfl) ((O49.view).elem hA107 ((vals l).length - 1) st0 (by omega))) ?_
                  clear fr a; intro a fr
                  refine fx_new fr rfl rfl (by first | decide | simp) (x_alloc (z := .agg (#[.int .u32 0, .int .i64 0, .int .u32 0])) (cs := stE.arr st0) rfl (by kernel_rfl) rfl) ?_
                  clear fr a
                  intro b108 w109 hN110 B111 hb112 a fr
                  have ap_P_b108 : Apart P b108 := hV.apart hb112
                  have ap_M_b108 : Apart M b108 := hM.apart hb112
                  have ne_b4_b108 : NE b4 b108 := NE.mk (Nat.lt_of_lt_of_le H.lt hb112)
                  have ne_b25_b108 : NE b25 b108 := NE.mk (Nat.lt_of_lt_of_le Z1.lt hb112)
                  have ap_A47_b108 : Apart A47 b108 := O49.apart hb112
                  have ne_b30_b108 : NE b30 b108 := NE.mk (Nat.lt_of_lt_of_le Z2.lt hb112)
                  have g_b108 := Nat.le_trans hF.size hb112
                  replace hV := hV.new hN110
                  replace hM := hM.new hN110
                  replace H := H.new hN110
                  replace Z1 := Z1.new hN110
                  replace O49 := O49.new hN110
                  replace Z2 := Z2.new hN110
                  replace hF := hF.trNew hN110
                  refine fx_storeS sz24 rfl rfl rfl (fr.ev rfl) (fr.ev rfl) (stE.all _) B111 (stE.size _) (stE.size _) fun w113 hO114 hBq => ?_
                  replace hV := hV.only hO114 (Apart.ne1 ap_P_b108)
                  replace hM := hM.only hO114 (Apart.ne1 ap_M_b108)
                  replace H := H.only hO114 (by first | exact ne_b4_b108 | exact ne_b108_b4.symm | (show ¬ b4 = b108; omega))
                  replace Z1 := Z1.only hO114 (by first | exact ne_b25_b108 | exact ne_b108_b25.symm | (show ¬ b25 = b108; omega))
                  replace O49 := O49.only hO114 (Apart.ne1 ap_A47_b108)
                  replace Z2 := Z2.only hO114 (by first | exact ne_b30_b108 | exact ne_b108_b30.symm | (show ¬ b30 = b108; omega))
                  replace hF := hF.loc hO114 (.inr g_b108)
                  replace B111 := hBq
                  clear hBq
                  refine wpList_nil ?_
                  refine fx_next ?_
                  refine wp_seq ?_
                  refine wp_region_lit ?_  -- region 40
                  refine fx_val (v := .pointer (some ⟨b4, 0, none⟩)) fr rfl rfl (by first | decide | simp) (x_move rfl (fr.ev rfl)) ?_
                  clear fr a; intro a fr
                  refine fx_val (v := .pointer (some ⟨b108, 0, none⟩)) fr rfl rfl (by first | decide | simp) (x_fieldAddr fo24_0 rfl (fr.ev rfl) rfl) ?_
                  clear fr a; intro a fr
                  refine fx_val (v := .int .u32 (((vals l).getD ((vals l).length - 1) st0).addr)) fr rfl rfl (by first | decide | simp) (x_load1 pl22 rfl (fr.ev rfl) (B111.cell 0 rfl)) ?_
                  clear fr a; intro a fr
                  refine fx_val (v := .pointer (some ⟨b108, 1, none⟩)) fr rfl rfl (by first | decide | simp) (x_fieldAddr fo24_1 rfl (fr.ev rfl) rfl) ?_
                  clear fr a; intro a fr
                  refine fx_val (v := .int .i64 (((vals l).getD ((vals l).length - 1) st0).width)) fr rfl rfl (by first | decide | simp) (x_load1 pl3 rfl (fr.ev rfl) (B111.cell 1 rfl)) ?_
                  clear fr a; intro a fr
                  refine fx_call fr rfl rfl (by first | decide | simp) (x_call (vs := [.pointer (some ⟨b4, 0, none⟩), .int .u32 (((vals l).getD ((vals l).length - 1) st0).addr), .int .i64 (((vals l).getD ((vals l).length - 1) st0).width)]) rfl rfl ⟨(fr.ev rfl), (fr.ev rfl), (fr.ev rfl), trivial⟩ Try.func11 nm11 rfl) (forward_c H (((vals l).getD ((vals l).length - 1) st0).addr) (((vals l).getD ((vals l).length - 1) st0).width) (by omega)) ?_
                  clear fr a
                  rintro v w115 ⟨rfl, hN116⟩ a fr
                  replace hV := hV.new hN116
                  replace hM := hM.new hN116
                  replace H := H.new hN116
                  replace Z1 := Z1.new hN116
                  replace O49 := O49.new hN116
                  replace Z2 := Z2.new hN116
                  replace B111 := B111.new hN116
                  replace hF := hF.trNew hN116
                  rw [hfl] at fr
                  refine fx_val (v := .tuple #[.int .u32 (((vals l).getD ((vals l).length - 1) st0).value), .int .i64 1]) fr rfl rfl (by first | decide | simp) (x_move rfl (fr.ev rfl)) ?_
                  clear fr a; intro a fr
                  refine fx_val (v := .int .u32 (((vals l).getD ((vals l).length - 1) st0).value)) fr rfl rfl (by first | decide | simp) (x_extract rfl (fr.ev rfl) rfl) ?_
                  clear fr a; intro a fr
                  refine fx_val (v := .int .i64 1) fr rfl rfl (by first | decide | simp) (x_extract rfl (fr.ev rfl) rfl) ?_
                  clear fr a; intro a fr
                  refine fx_val (v := .int .u32 (((vals l).getD ((vals l).length - 1) st0).value)) fr rfl rfl (by first | decide | simp) (x_assign rfl (fr.ev rfl)) ?_
                  clear fr a; intro a fr
                  refine fx_val (v := .int .i64 1) fr rfl rfl (by first | decide | simp) (x_assign rfl (fr.ev rfl)) ?_
                  clear fr a; intro a fr
                  refine wpList_nil ?_
                  refine fx_next ?_
                  refine wp_seq ?_
                  refine wp_region_lit ?_  -- region 41
                  refine fx_val (v := .int .u32 (((vals l).getD ((vals l).length - 1) st0).value)) fr rfl rfl (by first | decide | simp) (x_move rfl (fr.ev rfl)) ?_
                  clear fr a; intro a fr
                  refine fx_val (v := .pointer (some ⟨b108, 2, none⟩)) fr rfl rfl (by first | decide | simp) (x_fieldAddr fo24_2 rfl (fr.ev rfl) rfl) ?_
                  clear fr a; intro a fr
                  refine fx_val (v := .int .u32 (((vals l).getD ((vals l).length - 1) st0).value)) fr rfl rfl (by first | decide | simp) (x_load1 pl22 rfl (fr.ev rfl) (B111.cell 2 rfl)) ?_
                  clear fr a; intro a fr
                  refine fx_val (v := .bool false) fr rfl rfl (by first | decide | simp) (x_neq rfl (fr.ev rfl) (fr.ev rfl) (by simp)) ?_
                  clear fr a; intro a fr
                  refine fx_val (v := .bool false) fr rfl rfl (by first | decide | simp) (x_move rfl (fr.ev rfl)) ?_
                  clear fr a; intro a fr
                  refine fx_val (v := .int .i64 1) fr (fr.want rfl rfl rfl) rfl (by first | decide | simp) (x_move rfl (fr.ev rfl)) ?_
                  clear fr a; intro a fr
                  refine fx_val (v := .bool false) fr (fr.want rfl rfl rfl) rfl (by first | decide | simp) (x_neq rfl (fr.ev rfl) rfl rfl) ?_
                  clear fr a; intro a fr
                  refine fx_val (v := .bool false) fr rfl rfl (by first | decide | simp) (x_pick_f rfl (fr.ev rfl) (fr.ev rfl)) ?_
                  clear fr a; intro a fr
                  refine wpList_nil ?_
                  refine fx_next ?_
                  refine fx_cond_f fr rfl ?_
                  refine wp_skip ?_
                  refine fx_next ?_
                  refine wp_seq ?_
                  refine wp_region_lit ?_  -- region 43
                  refine fx_call fr rfl rfl (by first | decide | simp) (x_call (vs := []) rfl rfl trivial Try.func15 nm15 rfl) (works_c _) ?_
                  clear fr a
                  rintro v w117 ⟨rfl, hN118⟩ a fr
                  replace hV := hV.new hN118
                  replace hM := hM.new hN118
                  replace H := H.new hN118
                  replace Z1 := Z1.new hN118
                  replace O49 := O49.new hN118
                  replace Z2 := Z2.new hN118
                  replace B111 := B111.new hN118
                  replace hF := hF.trNew hN118
                  refine fx_val (v := .bool true) fr rfl rfl (by first | decide | simp) (x_assign rfl (fr.ev rfl)) ?_
                  clear fr a; intro a fr
                  refine wpList_nil ?_
                  refine fx_next ?_
                  refine wp_ret ?_
                  refine fx_ret fr [.tmp 8] [.bool true] rfl ⟨rfl, trivial⟩ rfl ?_
                  exact ⟨_, rfl, rfl, hF⟩
                · skip
                  have hc104 := of_decide_eq_false hc104
                  refine wp_skip ?_
                  refine fx_next ?_
                  refine wp_seq ?_
                  refine wp_region_lit ?_  -- region 43
                  refine fx_call fr rfl rfl (by first | decide | simp) (x_call (vs := []) rfl rfl trivial Try.func15 nm15 rfl) (works_c _) ?_
                  clear fr a
                  rintro v w119 ⟨rfl, hN120⟩ a fr
                  replace hV := hV.new hN120
                  replace hM := hM.new hN120
                  replace H := H.new hN120
                  replace Z1 := Z1.new hN120
                  replace O49 := O49.new hN120
                  replace Z2 := Z2.new hN120
                  replace hF := hF.trNew hN120
                  refine fx_val (v := .bool true) fr rfl rfl (by first | decide | simp) (x_assign rfl (fr.ev rfl)) ?_
                  clear fr a; intro a fr
                  refine wpList_nil ?_
                  refine fx_next ?_
                  refine wp_ret ?_
                  refine fx_ret fr [.tmp 8] [.bool true] rfl ⟨rfl, trivial⟩ rfl ?_
                  exact ⟨_, rfl, rfl, hF⟩
  · skip
    refine wp_region_lit ?_  -- region 1
    refine fx_val (v := .slice P la.length cp) fr rfl rfl (by first | decide | simp) (x_move rfl (fr.ev rfl)) ?_
    clear fr a; intro a fr
    refine fx_val (v := .int .i64 ((la.length : Nat) : Int)) fr rfl rfl (by first | decide | simp) (x_len Try.underlying40 rfl (fr.ev rfl)) ?_
    clear fr a; intro a fr
    refine fx_val (v := .bool true) fr rfl rfl (by first | decide | simp) (x_gtr rfl (fr.ev rfl) rfl (decide_eq_true hA)) ?_
    clear fr a; intro a fr
    refine fx_val (v := .bool true) fr rfl rfl (by first | decide | simp) (x_move rfl (fr.ev rfl)) ?_
    clear fr a; intro a fr
    refine fx_skip fr (fr.unwant rfl rfl rfl (by decide)) rfl (by first | decide | simp) ?_
    clear fr a; intro a fr
    refine fx_skip fr (fr.unwant rfl rfl rfl (by decide)) rfl (by first | decide | simp) ?_
    clear fr a; intro a fr
    refine fx_val (v := .bool true) fr rfl rfl (by first | decide | simp) (x_pick_t rfl (fr.ev rfl) rfl) ?_
    clear fr a; intro a fr
    refine fx_val (v := .bool true) fr rfl rfl (by first | decide | simp) (x_move rfl (fr.ev rfl)) ?_
    clear fr a; intro a fr
    refine fx_skip fr (fr.unwant rfl rfl rfl (by decide)) rfl (by first | decide | simp) ?_
    clear fr a; intro a fr
    refine fx_skip fr (fr.unwant rfl rfl rfl (by decide)) rfl (by first | decide | simp) ?_
    clear fr a; intro a fr
    refine fx_skip fr (fr.unwant rfl rfl rfl (by decide)) rfl (by first | decide | simp) ?_
    clear fr a; intro a fr
    refine fx_skip fr (fr.unwant_u rfl rfl rfl) rfl (by first | decide | simp) ?_
    clear fr a; intro a fr
    refine fx_skip fr (fr.unwant_u rfl rfl rfl) rfl (by first | decide | simp) ?_
    clear fr a; intro a fr
    refine fx_skip fr (fr.unwant rfl rfl rfl (by decide)) rfl (by first | decide | simp) ?_
    clear fr a; intro a fr
    refine fx_skip fr (fr.unwant rfl rfl rfl (by decide)) rfl (by first | decide | simp) ?_
    clear fr a; intro a fr
    refine fx_skip fr (fr.unwant_u rfl rfl rfl) rfl (by first | decide | simp) ?_
    clear fr a; intro a fr
    refine fx_skip fr (fr.unwant_u rfl rfl rfl) rfl (by first | decide | simp) ?_
    clear fr a; intro a fr
    refine fx_skip fr (fr.unwant rfl rfl rfl (by decide)) rfl (by first | decide | simp) ?_
    clear fr a; intro a fr
    refine fx_val (v := .bool true) fr rfl rfl (by first | decide | simp) (x_pick_t rfl (fr.ev rfl) rfl) ?_
    clear fr a; intro a fr
    refine fx_val (v := .bool true) fr rfl rfl (by first | decide | simp) (x_move rfl (fr.ev rfl)) ?_
    clear fr a; intro a fr
    refine fx_skip fr (fr.unwant rfl rfl rfl (by decide)) rfl (by first | decide | simp) ?_
    clear fr a; intro a fr
    refine fx_skip fr (fr.unwant rfl rfl rfl (by decide)) rfl (by first | decide | simp) ?_
    clear fr a; intro a fr
    refine fx_skip fr (fr.unwant rfl rfl rfl (by decide)) rfl (by first | decide | simp) ?_
    clear fr a; intro a fr
    refine fx_skip fr (fr.unwant rfl rfl rfl (by decide)) rfl (by first | decide | simp) ?_
    clear fr a; intro a fr
    refine fx_skip fr (fr.unwant rfl rfl rfl (by decide)) rfl (by first | decide | simp) ?_
    clear fr a; intro a fr
    refine fx_val (v := .bool true) fr rfl rfl (by first | decide | simp) (x_pick_t rfl (fr.ev rfl) rfl) ?_
    clear fr a; intro a fr
    refine wpList_nil ?_
    refine fx_next ?_
    refine fx_cond_t fr rfl ?_
    refine wp_seq ?_
    refine wp_region_lit ?_  -- region 2
    refine fx_call fr rfl rfl (by first | decide | simp) (x_call (vs := []) rfl rfl trivial Try.func15 nm15 rfl) (works_c _) ?_
    clear fr a
    rintro v w121 ⟨rfl, hN122⟩ a fr
    replace hV := hV.new hN122
    replace hM := hM.new hN122
    replace hF := hF.trNew hN122
    refine fx_val (v := .bool true) fr rfl rfl (by first | decide | simp) (x_assign rfl (fr.ev rfl)) ?_
    clear fr a; intro a fr
    refine wpList_nil ?_
    refine fx_next ?_
    refine wp_ret ?_
    refine fx_rt ?_
    refine fx_ret fr [.tmp 8] [.bool true] rfl ⟨rfl, trivial⟩ rfl ?_
    exact ⟨_, rfl, rfl, hF⟩
  · skip
    refine wp_region_lit ?_  -- region 1
    refine fx_val (v := .slice P la.length cp) fr rfl rfl (by first | decide | simp) (x_move rfl (fr.ev rfl)) ?_
    clear fr a; intro a fr
    refine fx_val (v := .int .i64 ((la.length : Nat) : Int)) fr rfl rfl (by first | decide | simp) (x_len Try.underlying40 rfl (fr.ev rfl)) ?_
    clear fr a; intro a fr
    refine fx_val (v := .bool false) fr rfl rfl (by first | decide | simp) (x_gtr rfl (fr.ev rfl) rfl (decide_eq_false hA)) ?_
    clear fr a; intro a fr
    refine fx_val (v := .bool false) fr rfl rfl (by first | decide | simp) (x_move rfl (fr.ev rfl)) ?_
    clear fr a; intro a fr
    refine fx_val (v := .int .u32 addr) fr (fr.want rfl rfl rfl) rfl (by first | decide | simp) (x_move rfl (fr.ev rfl)) ?_
    clear fr a; intro a fr
    refine fx_val (v := .bool true) fr (fr.want rfl rfl rfl) rfl (by first | decide | simp) (x_geq rfl (fr.ev rfl) rfl (decide_eq_true hB)) ?_
    clear fr a; intro a fr
    refine fx_val (v := .bool true) fr rfl rfl (by first | decide | simp) (x_pick_f rfl (fr.ev rfl) (fr.ev rfl)) ?_
    clear fr a; intro a fr
    refine fx_val (v := .bool true) fr rfl rfl (by first | decide | simp) (x_move rfl (fr.ev rfl)) ?_
    clear fr a; intro a fr
    refine fx_skip fr (fr.unwant rfl rfl rfl (by decide)) rfl (by first | decide | simp) ?_
    clear fr a; intro a fr
    refine fx_skip fr (fr.unwant rfl rfl rfl (by decide)) rfl (by first | decide | simp) ?_
    clear fr a; intro a fr
    refine fx_skip fr (fr.unwant rfl rfl rfl (by decide)) rfl (by first | decide | simp) ?_
    clear fr a; intro a fr
    refine fx_skip fr (fr.unwant_u rfl rfl rfl) rfl (by first | decide | simp) ?_
    clear fr a; intro a fr
    refine fx_skip fr (fr.unwant_u rfl rfl rfl) rfl (by first | decide | simp) ?_
    clear fr a; intro a fr
    refine fx_skip fr (fr.unwant rfl rfl rfl (by decide)) rfl (by first | decide | simp) ?_
    clear fr a; intro a fr
    refine fx_skip fr (fr.unwant rfl rfl rfl (by decide)) rfl (by first | decide | simp) ?_
    clear fr a; intro a fr
    refine fx_skip fr (fr.unwant_u rfl rfl rfl) rfl (by first | decide | simp) ?_
    clear fr a; intro a fr
    refine fx_skip fr (fr.unwant_u rfl rfl rfl) rfl (by first | decide | simp) ?_
    clear fr a; intro a fr
    refine fx_skip fr (fr.unwant rfl rfl rfl (by decide)) rfl (by first | decide | simp) ?_
    clear fr a; intro a fr
    refine fx_val (v := .bool true) fr rfl rfl (by first | decide | simp) (x_pick_t rfl (fr.ev rfl) rfl) ?_
    clear fr a; intro a fr
    refine fx_val (v := .bool true) fr rfl rfl (by first | decide | simp) (x_move rfl (fr.ev rfl)) ?_
    clear fr a; intro a fr
    refine fx_skip fr (fr.unwant rfl rfl rfl (by decide)) rfl (by first | decide | simp) ?_
    clear fr a; intro a fr
    refine fx_skip fr (fr.unwant rfl rfl rfl (by decide)) rfl (by first | decide | simp) ?_
    clear fr a; intro a fr
    refine fx_skip fr (fr.unwant rfl rfl rfl (by decide)) rfl (by first | decide | simp) ?_
    clear fr a; intro a fr
    refine fx_skip fr (fr.unwant rfl rfl rfl (by decide)) rfl (by first | decide | simp) ?_
    clear fr a; intro a fr
    refine fx_skip fr (fr.unwant rfl rfl rfl (by decide)) rfl (by first | decide | simp) ?_
    clear fr a; intro a fr
    refine fx_val (v := .bool true) fr rfl rfl (by first | decide | simp) (x_pick_t rfl (fr.ev rfl) rfl) ?_
    clear fr a; intro a fr
    refine wpList_nil ?_
    refine fx_next ?_
    refine fx_cond_t fr rfl ?_
    refine wp_seq ?_
    refine wp_region_lit ?_  -- region 2
    refine fx_call fr rfl rfl (by first | decide | simp) (x_call (vs := []) rfl rfl trivial Try.func15 nm15 rfl) (works_c _) ?_
    clear fr a
    rintro v w123 ⟨rfl, hN124⟩ a fr
    replace hV := hV.new hN124
    replace hM := hM.new hN124
    replace hF := hF.trNew hN124
    refine fx_val (v := .bool true) fr rfl rfl (by first | decide | simp) (x_assign rfl (fr.ev rfl)) ?_
    clear fr a; intro a fr
    refine wpList_nil ?_
    refine fx_next ?_
    refine wp_ret ?_
    refine fx_rt ?_
    refine fx_ret fr [.tmp 8] [.bool true] rfl ⟨rfl, trivial⟩ rfl ?_
    exact ⟨_, rfl, rfl, hF⟩
end Go.Proofs.Ytemihglffmfikaa
