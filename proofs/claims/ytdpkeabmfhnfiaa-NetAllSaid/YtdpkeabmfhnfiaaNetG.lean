/-
  The walk of NetAll. Printed by gen_g.py.
-/
import Derived.Test.YtdpkeabmfhnfiaaNetF
namespace Go.Proofs.Ytdpkeabmfhnfiaa
open Go.RowKit

set_option maxRecDepth 100000 in
set_option maxHeartbeats 4000000 in
theorem all_c {w : World} {P K : Option Addr} {cp ck : Nat} {la : List NAct} {lp : List Int} (hV : View actE w P cp la) (hK : View intE w K ck lp) : Calls Try.prog 4 #[.slice P la.length cp, .slice K lp.length ck] w (Ret fun v w' => v = .bool true ∧ New w w') := by
  have hVl := hV.len
  have hKl := hK.len
  unfold maxLen at hVl hKl
  have hF := Only.refl (fun _ => False) w
  refine fx_enter Try.func4 rfl (N := 190) (T := [(0, .slice P la.length cp), (1, .slice K lp.length ck)]) rfl (show 2 ≤ 190 by decide) ⟨rfl, rfl, trivial⟩ fun a fr => ?_
  refine wp_seq ?_
  refine wp_region_lit ?_  -- region 0
  refine fx_val (v := .bool false) fr rfl rfl (by decide) (x_assign rfl rfl) ?_
  clear fr a; intro a fr
  refine wpList_nil ?_
  refine fx_next ?_
  refine wp_seq ?_
  refine wp_seq ?_
  refine wp_region_lit ?_  -- region 1
  refine fx_val (v := .slice P la.length cp) fr rfl rfl (by decide) (x_move rfl (fr.ev rfl)) ?_
  clear fr a; intro a fr
  refine fx_val (v := .int .i64 ((la.length : Nat) : Int)) fr rfl rfl (by decide) (x_len Try.underlying33 rfl (fr.ev rfl)) ?_
  clear fr a; intro a fr
  refine fx_val (v := .bool (decide (100 < ((la.length : Nat) : Int)))) fr rfl rfl (by decide) (x_gtr rfl (fr.ev rfl) rfl rfl) ?_
  clear fr a; intro a fr
  refine wpList_nil ?_
  refine fx_next ?_
  refine fx_cond fr rfl (fun hc1 => ?_) (fun hc1 => ?_)
  · skip
    have hc1 := of_decide_eq_true hc1
    refine wp_seq ?_
    refine wp_region_lit ?_  -- region 2
    refine fx_call fr rfl rfl (by decide) (x_call (vs := []) rfl rfl trivial Try.func13 nm13 rfl) (works_c _) ?_
    clear fr a
    rintro v w2 ⟨rfl, hN3⟩ a fr
    replace hV := hV.new hN3
    replace hK := hK.new hN3
    replace hF := hF.trNew hN3
    refine fx_val (v := .bool true) fr rfl rfl (by decide) (x_assign rfl (fr.ev rfl)) ?_
    clear fr a; intro a fr
    refine wpList_nil ?_
    refine fx_next ?_
    refine wp_ret ?_
    refine fx_rt ?_
    refine fx_ret fr [.tmp 4] [.bool true] rfl ⟨rfl, trivial⟩ rfl ?_
    exact ⟨_, rfl, rfl, hF⟩
  · skip
    have hc1 := of_decide_eq_false hc1
    refine wp_skip ?_
    refine fx_next ?_
    refine wp_seq ?_
    refine wp_region_lit ?_  -- region 3
    refine fx_call fr rfl rfl (by decide) (x_call (vs := [.int .i64 1024]) rfl rfl ⟨rfl, trivial⟩ Try.func14 nm14 rfl) (new_yes 1024 _ (by omega) (by omega)) ?_
    clear fr a
    rintro v w10 ⟨b4, A5, cap6, rfl, H7, hb8, hA9, hN11⟩ a fr
    have ap_P_b4 : Apart P b4 := hV.apart hb8
    have ap_K_b4 : Apart K b4 := hK.apart hb8
    have g_b4 := Nat.le_trans hF.size hb8
    have ap2_P_A5 : Apart2 P A5 := (new_apart2 hA9 fun _ hg => hV.lt hg).symm
    have ap2_K_A5 : Apart2 K A5 := (new_apart2 hA9 fun _ hg => hK.lt hg).symm
    have gA_A5 := gA_new hF hA9
    replace hV := hV.new hN11
    replace hK := hK.new hN11
    replace hF := hF.trNew hN11
    refine fx_val (v := .tuple #[.pointer (some ⟨b4, 0, none⟩), .int .i64 0]) fr rfl rfl (by decide) (x_move rfl (fr.ev rfl)) ?_
    clear fr a; intro a fr
    refine fx_val (v := .pointer (some ⟨b4, 0, none⟩)) fr rfl rfl (by decide) (x_extract rfl (fr.ev rfl) rfl) ?_
    clear fr a; intro a fr
    refine fx_val (v := .int .i64 0) fr rfl rfl (by decide) (x_extract rfl (fr.ev rfl) rfl) ?_
    clear fr a; intro a fr
    refine fx_val (v := .pointer (some ⟨b4, 0, none⟩)) fr rfl rfl (by decide) (x_assign rfl (fr.ev rfl)) ?_
    clear fr a; intro a fr
    refine fx_val (v := .int .i64 0) fr rfl rfl (by decide) (x_assign rfl (fr.ev rfl)) ?_
    clear fr a; intro a fr
    refine wpList_nil ?_
    refine fx_next ?_
    refine wp_seq ?_
    refine wp_region_lit ?_  -- region 4
    refine fx_val (v := .slice none 0 0) fr rfl rfl (by decide) (x_assign rfl rfl) ?_
    clear fr a; intro a fr
    refine fx_val (v := .slice none 0 0) fr rfl rfl (by decide) (x_assign rfl rfl) ?_
    clear fr a; intro a fr
    refine wpList_nil ?_
    refine fx_next ?_
    refine wp_seq ?_
    refine wp_seq ?_
    refine wp_region_lit ?_  -- region 5
    refine fx_val (v := .int .i64 0) fr rfl rfl (by decide) (x_assign rfl rfl) ?_
    clear fr a; intro a fr
    refine wpList_nil ?_
    refine fx_next ?_
    refine wp_block ?_
    refine fx_loop (fun nM a wL => ∃ A : Option Addr, ∃ cap : Nat, ∃ l : List Msg, ∃ S : Option Addr, ∃ sc : Nat, ∃ sent : List Msg, ∃ C : Option Addr, ∃ cc : Nat, ∃ came : List Msg, ∃ i : Nat, nM = la.length - i ∧ Fr 190 [(0, .slice P la.length cp), (1, .slice K lp.length ck), (5, .pointer (some ⟨b4, 0, none⟩)), (6, .int .i64 0), (7, .slice S sent.length sc), (8, .slice C came.length cc), (9, .int .i64 ((i : Nat) : Int)), (4, .bool false)] a ∧ Only (fun _ => False) w wL ∧ View actE wL P cp la ∧ View intE wL K ck lp ∧ NetAt wL b4 A cap 1024 l ∧ Own msgE wL S sc sent ∧ Own msgE wL C cc came ∧ Inv1 sent came l i ∧ i ≤ la.length ∧ (Apart2 P A) ∧ (Apart2 P S) ∧ (Apart2 P C) ∧ (Apart2 K A) ∧ (Apart2 K S) ∧ (Apart2 K C) ∧ (Apart S b4) ∧ (Apart2 A S) ∧ (Apart C b4) ∧ (Apart2 A C) ∧ (Apart2 S C) ∧ (∀ g, inA A g → (fun _ => False) g ∨ w.heap.size ≤ g) ∧ (∀ g, inA S g → (fun _ => False) g ∨ w.heap.size ≤ g) ∧ (∀ g, inA C g → (fun _ => False) g ∨ w.heap.size ≤ g)) (n0 := _) ⟨A5, cap6, [], none, 0, [], none, 0, [], 0, rfl, fr.sub ⟨rfl, rfl, rfl, rfl, rfl, rfl, rfl, rfl, trivial⟩, hF, hV, hK, H7, Own.nil, Own.nil, Inv1.nil, by omega, ap2_P_A5, (fun k _ h => apart_none k h), (fun k _ h => apart_none k h), ap2_K_A5, (fun k _ h => apart_none k h), (fun k _ h => apart_none k h), (apart_none b4), (fun k _ h => apart_none k h), (apart_none b4), (fun k _ h => apart_none k h), (fun k h _ => apart_none k h), gA_A5, gA_none, gA_none⟩ ?_
    rintro n13 a w12 ⟨A, cap, l, S, sc, sent, C, cc, came, i, rfl, fr, hF, hV, hK, H, Os, Oc, hI, hi, ap2_P_A, ap2_P_S, ap2_P_C, ap2_K_A, ap2_K_S, ap2_K_C, ap_S_b4, ap2_A_S, ap_C_b4, ap2_A_C, ap2_S_C, gA_A, gA_S, gA_C⟩
    have hIl := hI.lens
    refine wp_seq ?_
    refine wp_seq ?_
    refine wp_region_lit ?_  -- region 6
    refine fx_val (v := .int .i64 ((i : Nat) : Int)) fr rfl rfl (by decide) (x_move rfl (fr.ev rfl)) ?_
    clear fr a; intro a fr
    refine fx_val (v := .slice P la.length cp) fr rfl rfl (by decide) (x_move rfl (fr.ev rfl)) ?_
    clear fr a; intro a fr
    refine fx_val (v := .int .i64 ((la.length : Nat) : Int)) fr rfl rfl (by decide) (x_len Try.underlying33 rfl (fr.ev rfl)) ?_
    clear fr a; intro a fr
    refine fx_val (v := .bool (decide (((i : Nat) : Int) < ((la.length : Nat) : Int)))) fr rfl rfl (by decide) (x_lss rfl (fr.ev rfl) (fr.ev rfl) rfl) ?_
    clear fr a; intro a fr
    refine wpList_nil ?_
    refine fx_next ?_
    refine fx_cond fr rfl (fun hc14 => ?_) (fun hc14 => ?_)
    · skip
      have hc14 := of_decide_eq_true hc14
      refine wp_skip ?_
      refine fx_next ?_
      refine wp_seq ?_
      refine wp_block ?_
      refine wp_seq ?_
      refine wp_seq ?_
      refine wp_region_lit ?_  -- region 8
      refine fx_val (v := .slice P la.length cp) fr rfl rfl (by decide) (x_move rfl (fr.ev rfl)) ?_
      clear fr a; intro a fr
      refine fx_val (v := .int .i64 ((i : Nat) : Int)) fr rfl rfl (by decide) (x_move rfl (fr.ev rfl)) ?_
      clear fr a; intro a fr
      obtain ⟨g15, o16, hA17⟩ := (hV).some_ (by omega)
      refine fx_val (v := .pointer (some ⟨g15, o16 + i * 22, none⟩)) fr rfl rfl (by decide) (x_indexV Try.underlying33 sz40 rfl (fr.ev rfl) hA17 (fr.ev rfl) (by omega) rfl) ?_
      clear fr a; intro a fr
      refine fx_val (v := .pointer (some ⟨g15, o16 + i * 22, none⟩)) fr rfl rfl (by decide) (x_fieldAddr fo40_0 rfl (fr.ev rfl) rfl) ?_
      clear fr a; intro a fr
      refine fx_val (v := .int .i64 ((la.getD i act0).what)) fr rfl rfl (by decide) (x_load1 pl3 rfl (fr.ev rfl) (range_cell ((hV).elem hA17 i act0 (by omega)) 0 rfl rfl)) ?_
      clear fr a; intro a fr
      refine fx_val (v := .bool (decide ((la.getD i act0).what = 0))) fr rfl rfl (by decide) (x_eql rfl (fr.ev rfl) rfl rfl) ?_
      clear fr a; intro a fr
      refine wpList_nil ?_
      refine fx_next ?_
      refine fx_cond fr rfl (fun hc18 => ?_) (fun hc18 => ?_)
      · skip
        have hc18 := of_decide_eq_true hc18
        refine wp_seq ?_
        refine wp_seq ?_
        refine wp_region_lit ?_  -- region 9
        refine fx_val (v := .pointer (some ⟨b4, 0, none⟩)) fr rfl rfl (by decide) (x_move rfl (fr.ev rfl)) ?_
        clear fr a; intro a fr
        refine fx_val (v := .slice P la.length cp) fr rfl rfl (by decide) (x_move rfl (fr.ev rfl)) ?_
        clear fr a; intro a fr
        refine fx_val (v := .int .i64 ((i : Nat) : Int)) fr rfl rfl (by decide) (x_move rfl (fr.ev rfl)) ?_
        clear fr a; intro a fr
        refine fx_val (v := .pointer (some ⟨g15, o16 + i * 22, none⟩)) fr rfl rfl (by decide) (x_indexV Try.underlying33 sz40 rfl (fr.ev rfl) hA17 (fr.ev rfl) (by omega) rfl) ?_
        clear fr a; intro a fr
        refine fx_val (v := .pointer (some ⟨g15, o16 + i * 22 + 1, none⟩)) fr rfl rfl (by decide) (x_fieldAddr fo40_1 rfl (fr.ev rfl) rfl) ?_
        clear fr a; intro a fr
        refine fx_val (v := .agg (msgE.arr ((la.getD i act0).msg))) fr rfl rfl (by decide) (x_loadE (E := msgE) ag26 rfl rfl (fr.ev rfl) (range_sub ((hV).elem hA17 i act0 (by omega)) 1 20 (act_msg _) rfl)) ?_
        clear fr a; intro a fr
        refine fx_call fr rfl rfl (by decide) (x_call (vs := [.pointer (some ⟨b4, 0, none⟩), .agg (msgE.arr ((la.getD i act0).msg))]) rfl rfl ⟨(fr.ev rfl), (fr.ev rfl), trivial⟩ Try.func15 nm15 rfl) (send_c ((la.getD i act0).msg) H (by omega) (by omega)) ?_
        clear fr a
        rintro v w23 ⟨rfl, A19, cap20, H21, hN24, mv22⟩ a fr
        have ap2_A19_P : Apart2 A19 P := moved_apart2 mv22 ap2_P_A.symm fun _ hg => hV.lt hg
        have ap2_A19_K : Apart2 A19 K := moved_apart2 mv22 ap2_K_A.symm fun _ hg => hK.lt hg
        have ap2_A19_S : Apart2 A19 S := moved_apart2 mv22 ap2_A_S fun _ hg => Os.lt hg
        have ap2_A19_C : Apart2 A19 C := moved_apart2 mv22 ap2_A_C fun _ hg => Oc.lt hg
        have gA_A19 := gA_moved hF mv22 gA_A
        replace hV := hV.only hN24 (fun g hg h => h.elim ((Apart.ne1 ap_P_b4) g hg) ((fun g h1 h2 => ap2_P_A g h1 h2) g hg))
        replace hK := hK.only hN24 (fun g hg h => h.elim ((Apart.ne1 ap_K_b4) g hg) ((fun g h1 h2 => ap2_K_A g h1 h2) g hg))
        replace Os := Os.only hN24 (fun g hg h => h.elim ((Apart.ne1 ap_S_b4) g hg) ((fun g h1 h2 => ap2_A_S.symm g h1 h2) g hg))
        replace Oc := Oc.only hN24 (fun g hg h => h.elim ((Apart.ne1 ap_C_b4) g hg) ((fun g h1 h2 => ap2_A_C.symm g h1 h2) g hg))
        replace hF := hF.loc2 hN24 (.inr g_b4) gA_A
        clear H
        refine fx_call fr rfl rfl (by decide) (x_call (vs := [.int .i64 (sendE 1024 l ((la.getD i act0).msg))]) rfl rfl ⟨(fr.ev rfl), trivial⟩ Try.func10 nm10 rfl) (num_c (sendE 1024 l ((la.getD i act0).msg)) _) ?_
        clear fr a
        rintro v _ ⟨rfl, rfl⟩ a fr
        refine fx_val (v := .bool (decide (sendE 1024 l ((la.getD i act0).msg) = 0))) fr rfl rfl (by decide) (x_eql rfl (fr.ev rfl) rfl rfl) ?_
        clear fr a; intro a fr
        refine wpList_nil ?_
        refine fx_next ?_
        refine fx_cond fr rfl (fun hc27 => ?_) (fun hc27 => ?_)
        · skip
          have hc27 := of_decide_eq_true hc27
          refine wp_region_lit ?_  -- region 10
          refine fx_val (v := .slice S sent.length sc) fr rfl rfl (by decide) (x_move rfl (fr.ev rfl)) ?_
          clear fr a; intro a fr
          refine fx_val (v := .slice P la.length cp) fr rfl rfl (by decide) (x_move rfl (fr.ev rfl)) ?_
          clear fr a; intro a fr
          refine fx_val (v := .int .i64 ((i : Nat) : Int)) fr rfl rfl (by decide) (x_move rfl (fr.ev rfl)) ?_
          clear fr a; intro a fr
          refine fx_val (v := .pointer (some ⟨g15, o16 + i * 22, none⟩)) fr rfl rfl (by decide) (x_indexV Try.underlying33 sz40 rfl (fr.ev rfl) hA17 (fr.ev rfl) (by omega) rfl) ?_
          clear fr a; intro a fr
          refine fx_val (v := .pointer (some ⟨g15, o16 + i * 22 + 1, none⟩)) fr rfl rfl (by decide) (x_fieldAddr fo40_1 rfl (fr.ev rfl) rfl) ?_
          clear fr a; intro a fr
          refine fx_val (v := .agg (msgE.arr ((la.getD i act0).msg))) fr rfl rfl (by decide) (x_loadE (E := msgE) ag26 rfl rfl (fr.ev rfl) (range_sub ((hV).elem hA17 i act0 (by omega)) 1 20 (act_msg _) rfl)) ?_
          clear fr a; intro a fr
          refine fx_build1 (E := msgE) (p := ((la.getD i act0).msg)) el38 (by decide) fr rfl rfl (by decide) rfl (fr.ev rfl) ?_
          clear fr a
          intro A28 w29 hN30 O31 hA32 a fr
          have ap2_P_A28 : Apart2 P A28 := (new_apart2 hA32 fun _ hg => hV.lt hg).symm
          have ap2_K_A28 : Apart2 K A28 := (new_apart2 hA32 fun _ hg => hK.lt hg).symm
          have ap2_S_A28 : Apart2 S A28 := (new_apart2 hA32 fun _ hg => Os.lt hg).symm
          have ap2_C_A28 : Apart2 C A28 := (new_apart2 hA32 fun _ hg => Oc.lt hg).symm
          have ap_A28_b4 : Apart A28 b4 := new_apart hA32 H21.ltb
          have ap2_A19_A28 : Apart2 A19 A28 := (new_apart2 hA32 fun _ hg => H21.lt hg).symm
          have gA_A28 := gA_new hF hA32
          replace hV := hV.new hN30
          replace hK := hK.new hN30
          replace Os := Os.new hN30
          replace Oc := Oc.new hN30
          replace H21 := H21.new hN30
          replace hF := hF.trNew hN30
          refine fx_append (E := msgE) (l := sent) (l' := [((la.getD i act0).msg)]) el38 fr rfl rfl (by decide) rfl (fr.ev rfl) (fr.ev rfl) (by first | rfl | (simp; done) | (simp; omega)) (by first | rfl | (simp; done) | (simp; omega)) Os O31.view (by first | omega | (simp; omega)) (by unfold maxLen; first | omega | (simp; omega)) ?_
          clear fr a
          intro A33 cap34 w35 O36 hO37 mv38 a fr
          have ap2_A33_P : Apart2 A33 P := moved_apart2 mv38 ap2_P_S.symm fun _ hg => hV.lt hg
          have ap2_A33_K : Apart2 A33 K := moved_apart2 mv38 ap2_K_S.symm fun _ hg => hK.lt hg
          have ap2_A33_C : Apart2 A33 C := moved_apart2 mv38 ap2_S_C fun _ hg => Oc.lt hg
          have ap_A33_b4 : Apart A33 b4 := moved_apart mv38 ap_S_b4 H21.ltb
          have ap2_A33_A19 : Apart2 A33 A19 := moved_apart2 mv38 ap2_A19_S.symm fun _ hg => H21.lt hg
          have ap2_A33_A28 : Apart2 A33 A28 := moved_apart2 mv38 ap2_S_A28 fun _ hg => O31.lt hg
          have gA_A33 := gA_moved hF mv38 gA_S
          replace hV := hV.only hO37 (fun g h1 h2 => ap2_P_S g h1 h2)
          replace hK := hK.only hO37 (fun g h1 h2 => ap2_K_S g h1 h2)
          replace Oc := Oc.only hO37 (fun g h1 h2 => ap2_S_C.symm g h1 h2)
          replace H21 := H21.only hO37 ap_S_b4 (fun g h1 h2 => ap2_A19_S g h1 h2)
          replace O31 := O31.only hO37 (fun g h1 h2 => ap2_S_A28.symm g h1 h2)
          replace hF := hF.locA hO37 gA_S
          clear Os
          refine fx_val (v := .slice A33 ((sent ++ ([((la.getD i act0).msg)])).length) cap34) fr rfl rfl (by decide) (x_assign rfl (fr.ev rfl)) ?_
          clear fr a; intro a fr
          refine wpList_nil ?_
          refine fx_next ?_
          refine wp_exit ?_
          refine fx_xt ?_
          refine fx_xx ?_
          refine fx_next ?_
          refine wp_region_lit ?_  -- region 7
          refine fx_val (v := .int .i64 ((i : Nat) : Int)) fr rfl rfl (by decide) (x_move rfl (fr.ev rfl)) ?_
          clear fr a; intro a fr
          refine fx_val (v := .int .i64 ((i + 1 : Nat) : Int)) fr rfl rfl (by decide) (x_add rfl (fr.ev rfl) rfl (i64w (r := ((i + 1 : Nat) : Int)) (by omega) (by omega))) ?_
          clear fr a; intro a fr
          refine fx_val (v := .int .i64 ((i + 1 : Nat) : Int)) fr rfl rfl (by decide) (x_assign rfl (fr.ev rfl)) ?_
          clear fr a; intro a fr
          refine wpList_nil ?_
          refine fx_next ?_
          exact ⟨_, by omega, A19, cap20, (sendL 1024 l ((la.getD i act0).msg)), A33, cap34, (sent ++ ([((la.getD i act0).msg)])), C, cc, came, (i + 1), rfl, fr.sub ⟨rfl, rfl, rfl, rfl, rfl, rfl, rfl, rfl, trivial⟩, hF, hV, hK, H21, O36, Oc, hI.send_ok hc27, by omega, ap2_A19_P.symm, ap2_A33_P.symm, ap2_P_C, ap2_A19_K.symm, ap2_A33_K.symm, ap2_K_C, ap_A33_b4, ap2_A33_A19.symm, ap_C_b4, ap2_A19_C, ap2_A33_C, gA_A19, gA_A33, gA_C⟩
        · skip
          have hc27 := of_decide_eq_false hc27
          refine wp_skip ?_
          refine fx_next ?_
          refine wp_exit ?_
          refine fx_xt ?_
          refine fx_xx ?_
          refine fx_next ?_
          refine wp_region_lit ?_  -- region 7
          refine fx_val (v := .int .i64 ((i : Nat) : Int)) fr rfl rfl (by decide) (x_move rfl (fr.ev rfl)) ?_
          clear fr a; intro a fr
          refine fx_val (v := .int .i64 ((i + 1 : Nat) : Int)) fr rfl rfl (by decide) (x_add rfl (fr.ev rfl) rfl (i64w (r := ((i + 1 : Nat) : Int)) (by omega) (by omega))) ?_
          clear fr a; intro a fr
          refine fx_val (v := .int .i64 ((i + 1 : Nat) : Int)) fr rfl rfl (by decide) (x_assign rfl (fr.ev rfl)) ?_
          clear fr a; intro a fr
          refine wpList_nil ?_
          refine fx_next ?_
          exact ⟨_, by omega, A19, cap20, (sendL 1024 l ((la.getD i act0).msg)), S, sc, sent, C, cc, came, (i + 1), rfl, fr.sub ⟨rfl, rfl, rfl, rfl, rfl, rfl, rfl, rfl, trivial⟩, hF, hV, hK, H21, Os, Oc, hI.send_no hc27, by omega, ap2_A19_P.symm, ap2_P_S, ap2_P_C, ap2_A19_K.symm, ap2_K_S, ap2_K_C, ap_S_b4, ap2_A19_S, ap_C_b4, ap2_A19_C, ap2_S_C, gA_A19, gA_S, gA_C⟩
      · skip
        have hc18 := of_decide_eq_false hc18
        refine wp_skip ?_
        refine fx_next ?_
        refine wp_seq ?_
        refine wp_region_lit ?_  -- region 11
        refine fx_val (v := .pointer (some ⟨b4, 0, none⟩)) fr rfl rfl (by decide) (x_move rfl (fr.ev rfl)) ?_
        clear fr a; intro a fr
        refine fx_val (v := .slice P la.length cp) fr rfl rfl (by decide) (x_move rfl (fr.ev rfl)) ?_
        clear fr a; intro a fr
        refine fx_val (v := .int .i64 ((i : Nat) : Int)) fr rfl rfl (by decide) (x_move rfl (fr.ev rfl)) ?_
        clear fr a; intro a fr
        refine fx_val (v := .pointer (some ⟨g15, o16 + i * 22, none⟩)) fr rfl rfl (by decide) (x_indexV Try.underlying33 sz40 rfl (fr.ev rfl) hA17 (fr.ev rfl) (by omega) rfl) ?_
        clear fr a; intro a fr
        refine fx_val (v := .pointer (some ⟨g15, o16 + i * 22 + 21, none⟩)) fr rfl rfl (by decide) (x_fieldAddr fo40_2 rfl (fr.ev rfl) rfl) ?_
        clear fr a; intro a fr
        refine fx_val (v := .int .i64 ((la.getD i act0).pick)) fr rfl rfl (by decide) (x_load1 pl3 rfl (fr.ev rfl) (range_cell ((hV).elem hA17 i act0 (by omega)) 21 (act_pick _) rfl)) ?_
        clear fr a; intro a fr
        refine fx_call fr rfl rfl (by decide) (x_call (vs := [.pointer (some ⟨b4, 0, none⟩), .int .i64 ((la.getD i act0).pick)]) rfl rfl ⟨(fr.ev rfl), (fr.ev rfl), trivial⟩ Try.func16 nm16 rfl) (deliver_c ((la.getD i act0).pick) H (by omega) (by omega)) ?_
        clear fr a
        rintro v w43 ⟨rfl, A39, cap40, H41, hN44, mv42⟩ a fr
        have ap2_A39_P : Apart2 A39 P := moved_apart2 mv42 ap2_P_A.symm fun _ hg => hV.lt hg
        have ap2_A39_K : Apart2 A39 K := moved_apart2 mv42 ap2_K_A.symm fun _ hg => hK.lt hg
        have ap2_A39_S : Apart2 A39 S := moved_apart2 mv42 ap2_A_S fun _ hg => Os.lt hg
        have ap2_A39_C : Apart2 A39 C := moved_apart2 mv42 ap2_A_C fun _ hg => Oc.lt hg
        have gA_A39 := gA_moved hF mv42 gA_A
        replace hV := hV.only hN44 (fun g hg h => h.elim ((Apart.ne1 ap_P_b4) g hg) ((fun g h1 h2 => ap2_P_A g h1 h2) g hg))
        replace hK := hK.only hN44 (fun g hg h => h.elim ((Apart.ne1 ap_K_b4) g hg) ((fun g h1 h2 => ap2_K_A g h1 h2) g hg))
        replace Os := Os.only hN44 (fun g hg h => h.elim ((Apart.ne1 ap_S_b4) g hg) ((fun g h1 h2 => ap2_A_S.symm g h1 h2) g hg))
        replace Oc := Oc.only hN44 (fun g hg h => h.elim ((Apart.ne1 ap_C_b4) g hg) ((fun g h1 h2 => ap2_A_C.symm g h1 h2) g hg))
        replace hF := hF.loc2 hN44 (.inr g_b4) gA_A
        clear H
        refine fx_val (v := .tuple #[.agg (msgE.arr (delM ((la.getD i act0).pick) l)), .bool (decide (l ≠ []))]) fr rfl rfl (by decide) (x_move rfl (fr.ev rfl)) ?_
        clear fr a; intro a fr
        refine fx_val (v := .agg (msgE.arr (delM ((la.getD i act0).pick) l))) fr rfl rfl (by decide) (x_extract rfl (fr.ev rfl) rfl) ?_
        clear fr a; intro a fr
        refine fx_val (v := .bool (decide (l ≠ []))) fr rfl rfl (by decide) (x_extract rfl (fr.ev rfl) rfl) ?_
        clear fr a; intro a fr
        refine fx_new fr rfl rfl (by decide) (x_alloc (z := .agg (#[.int .i64 0, .int .i64 0, .int .i64 0, .int .u32 0, .int .u8 0, .int .u8 0, .int .u8 0, .int .u8 0, .int .u8 0, .int .u8 0, .int .u8 0, .int .u8 0, .int .u8 0, .int .u8 0, .int .u8 0, .int .u8 0, .int .u8 0, .int .u8 0, .int .u8 0, .int .u8 0])) (cs := msgE.arr msg0) rfl (by kernel_rfl) rfl) ?_
        clear fr a
        intro b45 w46 hN47 B48 hb49 a fr
        have ap_P_b45 : Apart P b45 := hV.apart hb49
        have ap_K_b45 : Apart K b45 := hK.apart hb49
        have ap_S_b45 : Apart S b45 := Os.apart hb49
        have ap_C_b45 : Apart C b45 := Oc.apart hb49
        have ne_b4_b45 : ¬ b4 = b45 := Nat.ne_of_lt (Nat.lt_of_lt_of_le H41.ltb hb49)
        have ap_A39_b45 : Apart A39 b45 := H41.apart hb49
        have g_b45 := Nat.le_trans hF.size hb49
        replace hV := hV.new hN47
        replace hK := hK.new hN47
        replace Os := Os.new hN47
        replace Oc := Oc.new hN47
        replace H41 := H41.new hN47
        replace hF := hF.trNew hN47
        refine fx_storeS sz26 rfl rfl rfl (fr.ev rfl) (fr.ev rfl) (msgE.all _) B48 (msgE.size _) (msgE.size _) fun w50 hO51 hBq => ?_
        replace hV := hV.only hO51 (Apart.ne1 ap_P_b45)
        replace hK := hK.only hO51 (Apart.ne1 ap_K_b45)
        replace Os := Os.only hO51 (Apart.ne1 ap_S_b45)
        replace Oc := Oc.only hO51 (Apart.ne1 ap_C_b45)
        replace H41 := H41.only hO51 (by show ¬ b4 = b45; omega) (Apart.ne1 ap_A39_b45)
        replace hF := hF.loc hO51 (.inr g_b45)
        replace B48 := hBq
        clear hBq
        refine fx_val (v := .bool (decide (l ≠ []))) fr rfl rfl (by decide) (x_assign rfl (fr.ev rfl)) ?_
        clear fr a; intro a fr
        refine wpList_nil ?_
        refine fx_next ?_
        refine wp_seq ?_
        refine wp_region_lit ?_  -- region 12
        refine fx_val (v := .bool (decide (l ≠ []))) fr rfl rfl (by decide) (x_move rfl (fr.ev rfl)) ?_
        clear fr a; intro a fr
        refine wpList_nil ?_
        refine fx_next ?_
        refine fx_cond fr rfl (fun hc52 => ?_) (fun hc52 => ?_)
        · skip
          have hc52 := of_decide_eq_true hc52
          refine wp_region_lit ?_  -- region 13
          refine fx_val (v := .slice C came.length cc) fr rfl rfl (by decide) (x_move rfl (fr.ev rfl)) ?_
          clear fr a; intro a fr
          refine fx_val (v := .agg (msgE.arr (delM ((la.getD i act0).pick) l))) fr rfl rfl (by decide) (x_loadE (E := msgE) ag26 rfl rfl (fr.ev rfl) (B48.rangeE msgE)) ?_
          clear fr a; intro a fr
          refine fx_build1 (E := msgE) (p := (delM ((la.getD i act0).pick) l)) el38 (by decide) fr rfl rfl (by decide) rfl (fr.ev rfl) ?_
          clear fr a
          intro A53 w54 hN55 O56 hA57 a fr
          have ap2_P_A53 : Apart2 P A53 := (new_apart2 hA57 fun _ hg => hV.lt hg).symm
          have ap2_K_A53 : Apart2 K A53 := (new_apart2 hA57 fun _ hg => hK.lt hg).symm
          have ap2_S_A53 : Apart2 S A53 := (new_apart2 hA57 fun _ hg => Os.lt hg).symm
          have ap2_C_A53 : Apart2 C A53 := (new_apart2 hA57 fun _ hg => Oc.lt hg).symm
          have ap_A53_b4 : Apart A53 b4 := new_apart hA57 H41.ltb
          have ap2_A39_A53 : Apart2 A39 A53 := (new_apart2 hA57 fun _ hg => H41.lt hg).symm
          have ap_A53_b45 : Apart A53 b45 := new_apart hA57 B48.lt
          have gA_A53 := gA_new hF hA57
          replace hV := hV.new hN55
          replace hK := hK.new hN55
          replace Os := Os.new hN55
          replace Oc := Oc.new hN55
          replace H41 := H41.new hN55
          replace B48 := B48.new hN55
          replace hF := hF.trNew hN55
          refine fx_append (E := msgE) (l := came) (l' := [(delM ((la.getD i act0).pick) l)]) el38 fr rfl rfl (by decide) rfl (fr.ev rfl) (fr.ev rfl) (by first | rfl | (simp; done) | (simp; omega)) (by first | rfl | (simp; done) | (simp; omega)) Oc O56.view (by first | omega | (simp; omega)) (by unfold maxLen; first | omega | (simp; omega)) ?_
          clear fr a
          intro A58 cap59 w60 O61 hO62 mv63 a fr
          have ap2_A58_P : Apart2 A58 P := moved_apart2 mv63 ap2_P_C.symm fun _ hg => hV.lt hg
          have ap2_A58_K : Apart2 A58 K := moved_apart2 mv63 ap2_K_C.symm fun _ hg => hK.lt hg
          have ap2_A58_S : Apart2 A58 S := moved_apart2 mv63 ap2_S_C.symm fun _ hg => Os.lt hg
          have ap_A58_b4 : Apart A58 b4 := moved_apart mv63 ap_C_b4 H41.ltb
          have ap2_A58_A39 : Apart2 A58 A39 := moved_apart2 mv63 ap2_A39_C.symm fun _ hg => H41.lt hg
          have ap_A58_b45 : Apart A58 b45 := moved_apart mv63 ap_C_b45 B48.lt
          have ap2_A58_A53 : Apart2 A58 A53 := moved_apart2 mv63 ap2_C_A53 fun _ hg => O56.lt hg
          have gA_A58 := gA_moved hF mv63 gA_C
          replace hV := hV.only hO62 (fun g h1 h2 => ap2_P_C g h1 h2)
          replace hK := hK.only hO62 (fun g h1 h2 => ap2_K_C g h1 h2)
          replace Os := Os.only hO62 (fun g h1 h2 => ap2_S_C g h1 h2)
          replace H41 := H41.only hO62 ap_C_b4 (fun g h1 h2 => ap2_A39_C g h1 h2)
          replace B48 := B48.only hO62 ap_C_b45
          replace O56 := O56.only hO62 (fun g h1 h2 => ap2_C_A53.symm g h1 h2)
          replace hF := hF.locA hO62 gA_C
          clear Oc
          refine fx_val (v := .slice A58 ((came ++ ([(delM ((la.getD i act0).pick) l)])).length) cap59) fr rfl rfl (by decide) (x_assign rfl (fr.ev rfl)) ?_
          clear fr a; intro a fr
          refine wpList_nil ?_
          refine fx_blk ?_
          refine fx_next ?_
          refine wp_region_lit ?_  -- region 7
          refine fx_val (v := .int .i64 ((i : Nat) : Int)) fr rfl rfl (by decide) (x_move rfl (fr.ev rfl)) ?_
          clear fr a; intro a fr
          refine fx_val (v := .int .i64 ((i + 1 : Nat) : Int)) fr rfl rfl (by decide) (x_add rfl (fr.ev rfl) rfl (i64w (r := ((i + 1 : Nat) : Int)) (by omega) (by omega))) ?_
          clear fr a; intro a fr
          refine fx_val (v := .int .i64 ((i + 1 : Nat) : Int)) fr rfl rfl (by decide) (x_assign rfl (fr.ev rfl)) ?_
          clear fr a; intro a fr
          refine wpList_nil ?_
          refine fx_next ?_
          exact ⟨_, by omega, A39, cap40, (delL ((la.getD i act0).pick) l), S, sc, sent, A58, cap59, (came ++ ([(delM ((la.getD i act0).pick) l)])), (i + 1), rfl, fr.sub ⟨rfl, rfl, rfl, rfl, rfl, rfl, rfl, rfl, trivial⟩, hF, hV, hK, H41, Os, O61, hI.del_ok hc52, by omega, ap2_A39_P.symm, ap2_P_S, ap2_A58_P.symm, ap2_A39_K.symm, ap2_K_S, ap2_A58_K.symm, ap_S_b4, ap2_A39_S, ap_A58_b4, ap2_A58_A39.symm, ap2_A58_S.symm, gA_A39, gA_S, gA_A58⟩
        · skip
          have hc52 := of_decide_eq_false hc52
          refine wp_skip ?_
          refine fx_blk ?_
          refine fx_next ?_
          refine wp_region_lit ?_  -- region 7
          refine fx_val (v := .int .i64 ((i : Nat) : Int)) fr rfl rfl (by decide) (x_move rfl (fr.ev rfl)) ?_
          clear fr a; intro a fr
          refine fx_val (v := .int .i64 ((i + 1 : Nat) : Int)) fr rfl rfl (by decide) (x_add rfl (fr.ev rfl) rfl (i64w (r := ((i + 1 : Nat) : Int)) (by omega) (by omega))) ?_
          clear fr a; intro a fr
          refine fx_val (v := .int .i64 ((i + 1 : Nat) : Int)) fr rfl rfl (by decide) (x_assign rfl (fr.ev rfl)) ?_
          clear fr a; intro a fr
          refine wpList_nil ?_
          refine fx_next ?_
          exact ⟨_, by omega, A39, cap40, (delL ((la.getD i act0).pick) l), S, sc, sent, C, cc, came, (i + 1), rfl, fr.sub ⟨rfl, rfl, rfl, rfl, rfl, rfl, rfl, rfl, trivial⟩, hF, hV, hK, H41, Os, Oc, hI.del_no hc52, by omega, ap2_A39_P.symm, ap2_P_S, ap2_P_C, ap2_A39_K.symm, ap2_K_S, ap2_K_C, ap_S_b4, ap2_A39_S, ap_C_b4, ap2_A39_C, ap2_S_C, gA_A39, gA_S, gA_C⟩
    · skip
      have hc14 := of_decide_eq_false hc14
      refine wp_exit ?_
      refine fx_xt ?_
      refine fx_xt ?_
      refine fx_xx ?_
      refine fx_next ?_
      refine wp_seq ?_
      refine wp_seq ?_
      refine wp_region_lit ?_  -- region 14
      refine fx_val (v := .int .i64 0) fr rfl rfl (by decide) (x_assign rfl rfl) ?_
      clear fr a; intro a fr
      refine wpList_nil ?_
      refine fx_next ?_
      refine wp_block ?_
      refine fx_loop (fun nM a wL => ∃ A2 : Option Addr, ∃ cap2 : Nat, ∃ l2 : List Msg, ∃ C2 : Option Addr, ∃ cc2 : Nat, ∃ came2 : List Msg, ∃ i : Nat, nM = la.length + 1 - i ∧ Fr 190 [(0, .slice P la.length cp), (1, .slice K lp.length ck), (5, .pointer (some ⟨b4, 0, none⟩)), (6, .int .i64 0), (7, .slice S sent.length sc), (8, .slice C2 came2.length cc2), (12, .int .i64 ((i : Nat) : Int)), (4, .bool false)] a ∧ Only (fun _ => False) w wL ∧ View actE wL P cp la ∧ View intE wL K ck lp ∧ NetAt wL b4 A2 cap2 1024 l2 ∧ Own msgE wL S sc sent ∧ Own msgE wL C2 cc2 came2 ∧ Inv2 sent came2 l2 la.length i ∧ i ≤ la.length + 1 ∧ (Apart2 P A2) ∧ (Apart2 P C2) ∧ (Apart2 K A2) ∧ (Apart2 K C2) ∧ (Apart2 A2 S) ∧ (Apart C2 b4) ∧ (Apart2 A2 C2) ∧ (Apart2 S C2) ∧ (∀ g, inA A2 g → (fun _ => False) g ∨ w.heap.size ≤ g) ∧ (∀ g, inA C2 g → (fun _ => False) g ∨ w.heap.size ≤ g)) (n0 := _) ⟨A, cap, l, C, cc, came, 0, rfl, fr.sub ⟨rfl, rfl, rfl, rfl, rfl, rfl, rfl, rfl, trivial⟩, hF, hV, hK, H, Os, Oc, hI.inv2 hi, by omega, ap2_P_A, ap2_P_C, ap2_K_A, ap2_K_C, ap2_A_S, ap_C_b4, ap2_A_C, ap2_S_C, gA_A, gA_C⟩ ?_
      rintro n65 a w64 ⟨A2, cap2, l2, C2, cc2, came2, i, rfl, fr, hF, hV, hK, H2, Os, Oc2, hJ, hj, ap2_P_A2, ap2_P_C2, ap2_K_A2, ap2_K_C2, ap2_A2_S, ap_C2_b4, ap2_A2_C2, ap2_S_C2, gA_A2, gA_C2⟩
      have hJl := hJ.lens
      refine wp_seq ?_
      refine wp_seq ?_
      refine wp_region_lit ?_  -- region 15
      refine fx_val (v := .int .i64 ((i : Nat) : Int)) fr rfl rfl (by decide) (x_move rfl (fr.ev rfl)) ?_
      clear fr a; intro a fr
      refine fx_val (v := .slice P la.length cp) fr rfl rfl (by decide) (x_move rfl (fr.ev rfl)) ?_
      clear fr a; intro a fr
      refine fx_val (v := .int .i64 ((la.length : Nat) : Int)) fr rfl rfl (by decide) (x_len Try.underlying33 rfl (fr.ev rfl)) ?_
      clear fr a; intro a fr
      refine fx_val (v := .bool (decide (((i : Nat) : Int) ≤ ((la.length : Nat) : Int)))) fr rfl rfl (by decide) (x_leq rfl (fr.ev rfl) (fr.ev rfl) rfl) ?_
      clear fr a; intro a fr
      refine wpList_nil ?_
      refine fx_next ?_
      refine fx_cond fr rfl (fun hc66 => ?_) (fun hc66 => ?_)
      · skip
        have hc66 := of_decide_eq_true hc66
        refine wp_skip ?_
        refine fx_next ?_
        refine wp_seq ?_
        refine wp_block ?_
        refine wp_seq ?_
        refine wp_region_lit ?_  -- region 17
        refine fx_val (v := .int .i64 ((i : Nat) : Int)) fr rfl rfl (by decide) (x_move rfl (fr.ev rfl)) ?_
        clear fr a; intro a fr
        refine fx_val (v := .int .i64 ((i : Nat) : Int)) fr rfl rfl (by decide) (x_assign rfl (fr.ev rfl)) ?_
        clear fr a; intro a fr
        refine wpList_nil ?_
        refine fx_next ?_
        refine fx_join (fun a w => w64 = w ∧ Fr 190 [(0, .slice P la.length cp), (1, .slice K lp.length ck), (5, .pointer (some ⟨b4, 0, none⟩)), (6, .int .i64 0), (7, .slice S sent.length sc), (8, .slice C2 came2.length cc2), (12, .int .i64 ((i : Nat) : Int)), (4, .bool false), (13, .int .i64 (pickOf lp i))] a) ?_ ?_
        · skip
          refine wp_seq ?_
          refine wp_region_lit ?_  -- region 18
          refine fx_val (v := .int .i64 ((i : Nat) : Int)) fr rfl rfl (by decide) (x_move rfl (fr.ev rfl)) ?_
          clear fr a; intro a fr
          refine fx_val (v := .slice K lp.length ck) fr rfl rfl (by decide) (x_move rfl (fr.ev rfl)) ?_
          clear fr a; intro a fr
          refine fx_val (v := .int .i64 ((lp.length : Nat) : Int)) fr rfl rfl (by decide) (x_len Try.underlying34 rfl (fr.ev rfl)) ?_
          clear fr a; intro a fr
          refine fx_val (v := .bool (decide (((i : Nat) : Int) < ((lp.length : Nat) : Int)))) fr rfl rfl (by decide) (x_lss rfl (fr.ev rfl) (fr.ev rfl) rfl) ?_
          clear fr a; intro a fr
          refine wpList_nil ?_
          refine fx_next ?_
          refine fx_cond fr rfl (fun hc67 => ?_) (fun hc67 => ?_)
          · skip
            have hc67 := of_decide_eq_true hc67
            refine wp_region_lit ?_  -- region 19
            refine fx_val (v := .slice K lp.length ck) fr rfl rfl (by decide) (x_move rfl (fr.ev rfl)) ?_
            clear fr a; intro a fr
            refine fx_val (v := .int .i64 ((i : Nat) : Int)) fr rfl rfl (by decide) (x_move rfl (fr.ev rfl)) ?_
            clear fr a; intro a fr
            obtain ⟨g68, o69, hA70⟩ := (hK).some_ (by omega)
            refine fx_val (v := .pointer (some ⟨g68, o69 + i * 1, none⟩)) fr rfl rfl (by decide) (x_indexV Try.underlying34 sz3 rfl (fr.ev rfl) hA70 (fr.ev rfl) (by omega) rfl) ?_
            clear fr a; intro a fr
            refine fx_val (v := .int .i64 (lp.getD i 0)) fr rfl rfl (by decide) (x_load1 pl3 rfl (fr.ev rfl) (range_cell ((hK).elem hA70 i 0 (by omega)) 0 rfl rfl)) ?_
            clear fr a; intro a fr
            refine fx_val (v := .int .i64 (lp.getD i 0)) fr rfl rfl (by decide) (x_assign rfl (fr.ev rfl)) ?_
            clear fr a; intro a fr
            refine wpList_nil ?_
            refine fx_next ?_
            exact ⟨rfl, fr.sub ⟨rfl, rfl, rfl, rfl, rfl, rfl, rfl, rfl, (congrArg (fun q => some (Value.int .i64 q)) (show lp.getD i 0 = pickOf lp i by unfold pickOf; rw [if_pos (by omega)])), trivial⟩⟩
          · skip
            have hc67 := of_decide_eq_false hc67
            refine wp_skip ?_
            refine fx_next ?_
            exact ⟨rfl, fr.sub ⟨rfl, rfl, rfl, rfl, rfl, rfl, rfl, rfl, (congrArg (fun q => some (Value.int .i64 q)) (show ((i : Nat) : Int) = pickOf lp i by unfold pickOf; rw [if_neg (by omega)])), trivial⟩⟩
        clear fr a
        rintro a _ ⟨rfl, fr⟩
        refine wp_seq ?_
        rcases Decidable.em (l2 = []) with hl0 | hl0
        · skip
          have hl1 : ¬ 0 < ((l2.length : Nat) : Int) := by rw [hl0]; simp
          refine wp_region_lit ?_  -- region 20
          refine fx_val (v := .pointer (some ⟨b4, 0, none⟩)) fr rfl rfl (by decide) (x_move rfl (fr.ev rfl)) ?_
          clear fr a; intro a fr
          refine fx_call fr rfl rfl (by decide) (x_call (vs := [.pointer (some ⟨b4, 0, none⟩)]) rfl rfl ⟨(fr.ev rfl), trivial⟩ Try.func17 nm17 rfl) (ready_c H2 (by omega) (by omega)) ?_
          clear fr a
          rintro v w75 ⟨A71, cap72, rfl, O73, hA74, hN76⟩ a fr
          have ap2_P_A71 : Apart2 P A71 := (new_apart2 hA74 fun _ hg => hV.lt hg).symm
          have ap2_K_A71 : Apart2 K A71 := (new_apart2 hA74 fun _ hg => hK.lt hg).symm
          have ap_A71_b4 : Apart A71 b4 := new_apart hA74 H2.ltb
          have ap2_A2_A71 : Apart2 A2 A71 := (new_apart2 hA74 fun _ hg => H2.lt hg).symm
          have ap2_S_A71 : Apart2 S A71 := (new_apart2 hA74 fun _ hg => Os.lt hg).symm
          have ap2_C2_A71 : Apart2 C2 A71 := (new_apart2 hA74 fun _ hg => Oc2.lt hg).symm
          have gA_A71 := gA_new hF hA74
          replace hV := hV.new hN76
          replace hK := hK.new hN76
          replace H2 := H2.new hN76
          replace Os := Os.new hN76
          replace Oc2 := Oc2.new hN76
          replace hF := hF.trNew hN76
          refine fx_val (v := .slice A71 l2.length cap72) fr rfl rfl (by decide) (x_assign rfl (fr.ev rfl)) ?_
          clear fr a; intro a fr
          refine wpList_nil ?_
          refine fx_next ?_
          refine wp_seq ?_
          refine wp_region_lit ?_  -- region 21
          refine fx_val (v := .pointer (some ⟨b4, 0, none⟩)) fr rfl rfl (by decide) (x_move rfl (fr.ev rfl)) ?_
          clear fr a; intro a fr
          refine fx_val (v := .int .i64 (pickOf lp i)) fr rfl rfl (by decide) (x_move rfl (fr.ev rfl)) ?_
          clear fr a; intro a fr
          refine fx_call fr rfl rfl (by decide) (x_call (vs := [.pointer (some ⟨b4, 0, none⟩), .int .i64 (pickOf lp i)]) rfl rfl ⟨(fr.ev rfl), (fr.ev rfl), trivial⟩ Try.func16 nm16 rfl) (deliver_c (pickOf lp i) H2 (by omega) (by omega)) ?_
          clear fr a
          rintro v w81 ⟨rfl, A77, cap78, H79, hN82, mv80⟩ a fr
          have ap2_A77_P : Apart2 A77 P := moved_apart2 mv80 ap2_P_A2.symm fun _ hg => hV.lt hg
          have ap2_A77_K : Apart2 A77 K := moved_apart2 mv80 ap2_K_A2.symm fun _ hg => hK.lt hg
          have ap2_A77_S : Apart2 A77 S := moved_apart2 mv80 ap2_A2_S fun _ hg => Os.lt hg
          have ap2_A77_C2 : Apart2 A77 C2 := moved_apart2 mv80 ap2_A2_C2 fun _ hg => Oc2.lt hg
          have ap2_A77_A71 : Apart2 A77 A71 := moved_apart2 mv80 ap2_A2_A71 fun _ hg => O73.lt hg
          have gA_A77 := gA_moved hF mv80 gA_A2
          replace hV := hV.only hN82 (fun g hg h => h.elim ((Apart.ne1 ap_P_b4) g hg) ((fun g h1 h2 => ap2_P_A2 g h1 h2) g hg))
          replace hK := hK.only hN82 (fun g hg h => h.elim ((Apart.ne1 ap_K_b4) g hg) ((fun g h1 h2 => ap2_K_A2 g h1 h2) g hg))
          replace Os := Os.only hN82 (fun g hg h => h.elim ((Apart.ne1 ap_S_b4) g hg) ((fun g h1 h2 => ap2_A2_S.symm g h1 h2) g hg))
          replace Oc2 := Oc2.only hN82 (fun g hg h => h.elim ((Apart.ne1 ap_C2_b4) g hg) ((fun g h1 h2 => ap2_A2_C2.symm g h1 h2) g hg))
          replace O73 := O73.only hN82 (fun g hg h => h.elim ((Apart.ne1 ap_A71_b4) g hg) ((fun g h1 h2 => ap2_A2_A71.symm g h1 h2) g hg))
          replace hF := hF.loc2 hN82 (.inr g_b4) gA_A2
          clear H2
          rw [show delL (pickOf lp i) l2 = l2 from (by rw [hl0]; rfl)] at H79
          rw [show delM (pickOf lp i) l2 = msg0 from (by rw [hl0]; rfl), show decide (l2 ≠ []) = false from decide_eq_false (not_not_intro hl0)] at fr
          refine fx_val (v := .tuple #[.agg (msgE.arr msg0), .bool false]) fr rfl rfl (by decide) (x_move rfl (fr.ev rfl)) ?_
          clear fr a; intro a fr
          refine fx_val (v := .agg (msgE.arr msg0)) fr rfl rfl (by decide) (x_extract rfl (fr.ev rfl) rfl) ?_
          clear fr a; intro a fr
          refine fx_val (v := .bool false) fr rfl rfl (by decide) (x_extract rfl (fr.ev rfl) rfl) ?_
          clear fr a; intro a fr
          refine fx_new fr rfl rfl (by decide) (x_alloc (z := .agg (#[.int .i64 0, .int .i64 0, .int .i64 0, .int .u32 0, .int .u8 0, .int .u8 0, .int .u8 0, .int .u8 0, .int .u8 0, .int .u8 0, .int .u8 0, .int .u8 0, .int .u8 0, .int .u8 0, .int .u8 0, .int .u8 0, .int .u8 0, .int .u8 0, .int .u8 0, .int .u8 0])) (cs := msgE.arr msg0) rfl (by kernel_rfl) rfl) ?_
          clear fr a
          intro b83 w84 hN85 B86 hb87 a fr
          have ap_P_b83 : Apart P b83 := hV.apart hb87
          have ap_K_b83 : Apart K b83 := hK.apart hb87
          have ap_S_b83 : Apart S b83 := Os.apart hb87
          have ap_C2_b83 : Apart C2 b83 := Oc2.apart hb87
          have ap_A71_b83 : Apart A71 b83 := O73.apart hb87
          have ne_b4_b83 : ¬ b4 = b83 := Nat.ne_of_lt (Nat.lt_of_lt_of_le H79.ltb hb87)
          have ap_A77_b83 : Apart A77 b83 := H79.apart hb87
          have g_b83 := Nat.le_trans hF.size hb87
          replace hV := hV.new hN85
          replace hK := hK.new hN85
          replace Os := Os.new hN85
          replace Oc2 := Oc2.new hN85
          replace O73 := O73.new hN85
          replace H79 := H79.new hN85
          replace hF := hF.trNew hN85
          refine fx_storeS sz26 rfl rfl rfl (fr.ev rfl) (fr.ev rfl) (msgE.all _) B86 (msgE.size _) (msgE.size _) fun w88 hO89 hBq => ?_
          replace hV := hV.only hO89 (Apart.ne1 ap_P_b83)
          replace hK := hK.only hO89 (Apart.ne1 ap_K_b83)
          replace Os := Os.only hO89 (Apart.ne1 ap_S_b83)
          replace Oc2 := Oc2.only hO89 (Apart.ne1 ap_C2_b83)
          replace O73 := O73.only hO89 (Apart.ne1 ap_A71_b83)
          replace H79 := H79.only hO89 (by show ¬ b4 = b83; omega) (Apart.ne1 ap_A77_b83)
          replace hF := hF.loc hO89 (.inr g_b83)
          replace B86 := hBq
          clear hBq
          refine fx_val (v := .bool false) fr rfl rfl (by decide) (x_assign rfl (fr.ev rfl)) ?_
          clear fr a; intro a fr
          refine wpList_nil ?_
          refine fx_next ?_
          refine wp_seq ?_
          refine wp_region_lit ?_  -- region 22
          refine fx_val (v := .pointer (some ⟨b4, 0, none⟩)) fr rfl rfl (by decide) (x_move rfl (fr.ev rfl)) ?_
          clear fr a; intro a fr
          refine fx_call fr rfl rfl (by decide) (x_call (vs := [.pointer (some ⟨b4, 0, none⟩)]) rfl rfl ⟨(fr.ev rfl), trivial⟩ Try.func17 nm17 rfl) (ready_c H79 (by omega) (by omega)) ?_
          clear fr a
          rintro v w94 ⟨A90, cap91, rfl, O92, hA93, hN95⟩ a fr
          have ap2_P_A90 : Apart2 P A90 := (new_apart2 hA93 fun _ hg => hV.lt hg).symm
          have ap2_K_A90 : Apart2 K A90 := (new_apart2 hA93 fun _ hg => hK.lt hg).symm
          have ap2_S_A90 : Apart2 S A90 := (new_apart2 hA93 fun _ hg => Os.lt hg).symm
          have ap2_C2_A90 : Apart2 C2 A90 := (new_apart2 hA93 fun _ hg => Oc2.lt hg).symm
          have ap2_A71_A90 : Apart2 A71 A90 := (new_apart2 hA93 fun _ hg => O73.lt hg).symm
          have ap_A90_b4 : Apart A90 b4 := new_apart hA93 H79.ltb
          have ap2_A77_A90 : Apart2 A77 A90 := (new_apart2 hA93 fun _ hg => H79.lt hg).symm
          have ap_A90_b83 : Apart A90 b83 := new_apart hA93 B86.lt
          have gA_A90 := gA_new hF hA93
          replace hV := hV.new hN95
          replace hK := hK.new hN95
          replace Os := Os.new hN95
          replace Oc2 := Oc2.new hN95
          replace O73 := O73.new hN95
          replace H79 := H79.new hN95
          replace B86 := B86.new hN95
          replace hF := hF.trNew hN95
          refine fx_val (v := .slice A90 l2.length cap91) fr rfl rfl (by decide) (x_assign rfl (fr.ev rfl)) ?_
          clear fr a; intro a fr
          refine wpList_nil ?_
          refine fx_next ?_
          refine wp_seq ?_
          refine wp_seq ?_
          refine wp_region_lit ?_  -- region 23
          refine fx_val (v := .bool false) fr rfl rfl (by decide) (x_move rfl (fr.ev rfl)) ?_
          clear fr a; intro a fr
          refine fx_val (v := .slice A71 l2.length cap72) fr rfl rfl (by decide) (x_move rfl (fr.ev rfl)) ?_
          clear fr a; intro a fr
          refine fx_val (v := .int .i64 ((l2.length : Nat) : Int)) fr rfl rfl (by decide) (x_len Try.underlying38 rfl (fr.ev rfl)) ?_
          clear fr a; intro a fr
          refine fx_val (v := .bool false) fr rfl rfl (by decide) (x_gtr rfl (fr.ev rfl) rfl (decide_eq_false hl1)) ?_
          clear fr a; intro a fr
          refine fx_val (v := .bool false) fr rfl rfl (by decide) (x_bneq Try.underlying4 rfl (fr.ev rfl) (fr.ev rfl) rfl) ?_
          clear fr a; intro a fr
          refine fx_val (v := .bool false) fr rfl rfl (by decide) (x_move rfl (fr.ev rfl)) ?_
          clear fr a; intro a fr
          refine fx_val (v := .bool false) fr (fr.want rfl rfl rfl) rfl (by decide) (x_move rfl (fr.ev rfl)) ?_
          clear fr a; intro a fr
          refine fx_val (v := .bool false) fr (fr.want rfl rfl rfl) rfl (by decide) (x_move rfl (fr.ev rfl)) ?_
          clear fr a; intro a fr
          refine fx_skip fr (fr.unwant rfl rfl rfl (by decide)) rfl (by decide) ?_
          clear fr a; intro a fr
          refine fx_skip fr (fr.unwant rfl rfl rfl (by decide)) rfl (by decide) ?_
          clear fr a; intro a fr
          refine fx_skip fr (fr.unwant rfl rfl rfl (by decide)) rfl (by decide) ?_
          clear fr a; intro a fr
          refine fx_skip fr (fr.unwant rfl rfl rfl (by decide)) rfl (by decide) ?_
          clear fr a; intro a fr
          refine fx_skip fr (fr.unwant rfl rfl rfl (by decide)) rfl (by decide) ?_
          clear fr a; intro a fr
          refine fx_skip fr (fr.unwant rfl rfl rfl (by decide)) rfl (by decide) ?_
          clear fr a; intro a fr
          refine fx_val (v := .bool false) fr (fr.want rfl rfl rfl) rfl (by decide) (x_pick_f rfl (fr.ev rfl) rfl) ?_
          clear fr a; intro a fr
          refine fx_val (v := .bool false) fr rfl rfl (by decide) (x_pick_f rfl (fr.ev rfl) (fr.ev rfl)) ?_
          clear fr a; intro a fr
          refine wpList_nil ?_
          refine fx_next ?_
          refine fx_cond_f fr rfl ?_
          refine wp_skip ?_
          refine fx_next ?_
          refine wp_seq ?_
          refine wp_region_lit ?_  -- region 25
          refine fx_val (v := .int .i64 0) fr rfl rfl (by decide) (x_assign rfl rfl) ?_
          clear fr a; intro a fr
          refine wpList_nil ?_
          refine fx_next ?_
          refine wp_seq ?_
          refine wp_block ?_
          refine fx_loop (fun nM a wL => ∃ j : Nat, nM = l2.length - j ∧ Fr 190 [(0, .slice P la.length cp), (1, .slice K lp.length ck), (5, .pointer (some ⟨b4, 0, none⟩)), (6, .int .i64 0), (7, .slice S sent.length sc), (8, .slice C2 came2.length cc2), (12, .int .i64 ((i : Nat) : Int)), (4, .bool false), (13, .int .i64 (pickOf lp i)), (87, .pointer (some ⟨b4, 0, none⟩)), (88, .slice A71 l2.length cap72), (14, .slice A71 l2.length cap72), (90, .pointer (some ⟨b4, 0, none⟩)), (91, .int .i64 (pickOf lp i)), (92, .tuple #[.agg (msgE.arr msg0), .bool false]), (89, .tuple #[.agg (msgE.arr msg0), .bool false]), (93, .agg (msgE.arr msg0)), (94, .bool false), (15, .pointer (some ⟨b83, 0, none⟩)), (16, .bool false), (95, .pointer (some ⟨b4, 0, none⟩)), (96, .slice A90 l2.length cap91), (17, .slice A90 l2.length cap91), (97, .bool false), (98, .slice A71 l2.length cap72), (99, .int .i64 ((l2.length : Nat) : Int)), (100, .bool false), (101, .bool false), (102, .bool false), (103, .bool false), (104, .bool false), (105, undef), (106, undef), (107, undef), (108, undef), (109, undef), (110, undef), (111, .bool false), (112, .bool false), (18, .int .i64 ((j : Nat) : Int))] a ∧ Only (fun _ => False) w wL ∧ View actE wL P cp la ∧ View intE wL K ck lp ∧ Own msgE wL S sc sent ∧ Own msgE wL C2 cc2 came2 ∧ Own msgE wL A71 cap72 l2 ∧ NetAt wL b4 A77 cap78 1024 l2 ∧ Blk wL b83 26 (msgE.arr msg0) ∧ Own msgE wL A90 cap91 l2 ∧ j ≤ l2.length ∧ ∀ q, q < j → l2.getD q msg0 = l2.getD q msg0) (n0 := _) ⟨0, rfl, fr.sub ⟨rfl, rfl, rfl, rfl, rfl, rfl, rfl, rfl, rfl, rfl, rfl, rfl, rfl, rfl, rfl, rfl, rfl, rfl, rfl, rfl, rfl, rfl, rfl, rfl, rfl, rfl, rfl, rfl, rfl, rfl, rfl, rfl, rfl, rfl, rfl, rfl, rfl, rfl, rfl, rfl, trivial⟩, hF, hV, hK, Os, Oc2, O73, H79, B86, O92, by omega, fun q hq => absurd hq (by omega)⟩ ?_
          rintro n97 a w96 ⟨j, rfl, fr, hF, hV, hK, Os, Oc2, O73, H79, B86, O92, hjl, hall⟩
          refine wp_seq ?_
          refine wp_seq ?_
          rcases Decidable.em (((j : Nat) : Int) < ((l2.length : Nat) : Int)) with hjn | hjn
          · skip
            refine fx_held (n := 15) (fun w => View actE w P cp la ∧ View intE w K ck lp ∧ Own msgE w S sc sent ∧ Own msgE w C2 cc2 came2 ∧ Own msgE w A71 cap72 l2 ∧ NetAt w b4 A77 cap78 1024 l2 ∧ Blk w b83 26 (msgE.arr msg0) ∧ Own msgE w A90 cap91 l2 ∧ True) (by kernel_rfl) rfl ?_  -- region 26
            intro w98 hN99
            replace hV := hV.new hN99
            replace hK := hK.new hN99
            replace Os := Os.new hN99
            replace Oc2 := Oc2.new hN99
            replace O73 := O73.new hN99
            replace H79 := H79.new hN99
            replace B86 := B86.new hN99
            replace O92 := O92.new hN99
            replace hF := hF.trNew hN99
            refine fx_take (i := 0) (v := .int .i64 ((j : Nat) : Int)) fr rfl (by kernel_rfl) rfl rfl (by decide) (fun _ _ _ h => h) (fun _ ⟨hV, hK, Os, Oc2, O73, H79, B86, O92, _⟩ => x_move rfl (fr.ev rfl)) ⟨hV, hK, Os, Oc2, O73, H79, B86, O92, trivial⟩ ?_
            clear fr a; intro a fr
            refine fx_take (i := 1) (v := .slice A90 l2.length cap91) fr rfl (by kernel_rfl) rfl rfl (by decide) (fun _ _ _ h => h) (fun _ ⟨hV, hK, Os, Oc2, O73, H79, B86, O92, _⟩ => x_move rfl (fr.ev rfl)) ⟨hV, hK, Os, Oc2, O73, H79, B86, O92, trivial⟩ ?_
            clear fr a; intro a fr
            refine fx_take (i := 2) (v := .int .i64 ((l2.length : Nat) : Int)) fr rfl (by kernel_rfl) rfl rfl (by decide) (fun _ _ _ h => h) (fun _ ⟨hV, hK, Os, Oc2, O73, H79, B86, O92, _⟩ => x_len Try.underlying38 rfl (fr.ev rfl)) ⟨hV, hK, Os, Oc2, O73, H79, B86, O92, trivial⟩ ?_
            clear fr a; intro a fr
            refine fx_take (i := 3) (v := .bool true) fr rfl (by kernel_rfl) rfl rfl (by decide) (fun _ _ _ h => h) (fun _ ⟨hV, hK, Os, Oc2, O73, H79, B86, O92, _⟩ => x_lss rfl (fr.ev rfl) (fr.ev rfl) (decide_eq_true hjn)) ⟨hV, hK, Os, Oc2, O73, H79, B86, O92, trivial⟩ ?_
            clear fr a; intro a fr
            refine fx_take (i := 4) (v := .bool true) fr rfl (by kernel_rfl) rfl rfl (by decide) (fun _ _ _ h => h) (fun _ ⟨hV, hK, Os, Oc2, O73, H79, B86, O92, _⟩ => x_move rfl (fr.ev rfl)) ⟨hV, hK, Os, Oc2, O73, H79, B86, O92, trivial⟩ ?_
            clear fr a; intro a fr
            refine fx_take (i := 5) (v := .slice A90 l2.length cap91) fr rfl (by kernel_rfl) (fr.want rfl rfl rfl) rfl (by decide) (fun _ _ _ h => h) (fun _ ⟨hV, hK, Os, Oc2, O73, H79, B86, O92, _⟩ => x_move rfl (fr.ev rfl)) ⟨hV, hK, Os, Oc2, O73, H79, B86, O92, trivial⟩ ?_
            clear fr a; intro a fr
            refine fx_take (i := 6) (v := .int .i64 ((j : Nat) : Int)) fr rfl (by kernel_rfl) (fr.want rfl rfl rfl) rfl (by decide) (fun _ _ _ h => h) (fun _ ⟨hV, hK, Os, Oc2, O73, H79, B86, O92, _⟩ => x_move rfl (fr.ev rfl)) ⟨hV, hK, Os, Oc2, O73, H79, B86, O92, trivial⟩ ?_
            clear fr a; intro a fr
            obtain ⟨g100, o101, hA102⟩ := (O92.view).some_ (by omega)
            refine fx_take (i := 7) (v := .pointer (some ⟨g100, o101 + j * 20, none⟩)) fr rfl (by kernel_rfl) (fr.want rfl rfl rfl) rfl (by decide) (fun _ _ _ h => h) (fun _ ⟨hV, hK, Os, Oc2, O73, H79, B86, O92, _⟩ => x_indexV Try.underlying38 sz26 rfl (fr.ev rfl) hA102 (fr.ev rfl) (by omega) rfl) ⟨hV, hK, Os, Oc2, O73, H79, B86, O92, trivial⟩ ?_
            clear fr a; intro a fr
            refine fx_take (i := 8) (v := .agg (msgE.arr (l2.getD j msg0))) fr rfl (by kernel_rfl) (fr.want rfl rfl rfl) rfl (by decide) (fun _ _ _ h => h) (fun _ ⟨hV, hK, Os, Oc2, O73, H79, B86, O92, _⟩ => x_loadE (E := msgE) ag26 rfl rfl (fr.ev rfl) ((O92.view).elem hA102 j msg0 (by omega))) ⟨hV, hK, Os, Oc2, O73, H79, B86, O92, trivial⟩ ?_
            clear fr a; intro a fr
            refine fx_take (i := 9) (v := .slice A71 l2.length cap72) fr rfl (by kernel_rfl) (fr.want rfl rfl rfl) rfl (by decide) (fun _ _ _ h => h) (fun _ ⟨hV, hK, Os, Oc2, O73, H79, B86, O92, _⟩ => x_move rfl (fr.ev rfl)) ⟨hV, hK, Os, Oc2, O73, H79, B86, O92, trivial⟩ ?_
            clear fr a; intro a fr
            refine fx_take (i := 10) (v := .int .i64 ((j : Nat) : Int)) fr rfl (by kernel_rfl) (fr.want rfl rfl rfl) rfl (by decide) (fun _ _ _ h => h) (fun _ ⟨hV, hK, Os, Oc2, O73, H79, B86, O92, _⟩ => x_move rfl (fr.ev rfl)) ⟨hV, hK, Os, Oc2, O73, H79, B86, O92, trivial⟩ ?_
            clear fr a; intro a fr
            obtain ⟨g103, o104, hA105⟩ := (O73.view).some_ (by omega)
            refine fx_take (i := 11) (v := .pointer (some ⟨g103, o104 + j * 20, none⟩)) fr rfl (by kernel_rfl) (fr.want rfl rfl rfl) rfl (by decide) (fun _ _ _ h => h) (fun _ ⟨hV, hK, Os, Oc2, O73, H79, B86, O92, _⟩ => x_indexV Try.underlying38 sz26 rfl (fr.ev rfl) hA105 (fr.ev rfl) (by omega) rfl) ⟨hV, hK, Os, Oc2, O73, H79, B86, O92, trivial⟩ ?_
            clear fr a; intro a fr
            refine fx_take (i := 12) (v := .agg (msgE.arr (l2.getD j msg0))) fr rfl (by kernel_rfl) (fr.want rfl rfl rfl) rfl (by decide) (fun _ _ _ h => h) (fun _ ⟨hV, hK, Os, Oc2, O73, H79, B86, O92, _⟩ => x_loadE (E := msgE) ag26 rfl rfl (fr.ev rfl) ((O73.view).elem hA105 j msg0 (by omega))) ⟨hV, hK, Os, Oc2, O73, H79, B86, O92, trivial⟩ ?_
            clear fr a; intro a fr
            refine fx_take (i := 13) (v := .bool true) fr rfl (by kernel_rfl) (fr.want rfl rfl rfl) rfl (by decide) (fun _ _ _ h => h) (fun _ ⟨hV, hK, Os, Oc2, O73, H79, B86, O92, _⟩ => x_eqE msgER rfl rfl (fr.ev rfl) (fr.ev rfl) (by simp)) ⟨hV, hK, Os, Oc2, O73, H79, B86, O92, trivial⟩ ?_
            clear fr a; intro a fr
            refine fx_take (i := 14) (v := .bool true) fr rfl (by kernel_rfl) rfl rfl (by decide) (fun _ _ _ h => h) (fun _ ⟨hV, hK, Os, Oc2, O73, H79, B86, O92, _⟩ => x_pick_t rfl (fr.ev rfl) (fr.ev rfl)) ⟨hV, hK, Os, Oc2, O73, H79, B86, O92, trivial⟩ ?_
            clear fr a; intro a fr
            refine fx_hdone (by kernel_rfl) ?_
            refine fx_next ?_
            refine fx_cond_t fr rfl ?_
            refine wp_skip ?_
            refine fx_next ?_
            refine wp_block ?_
            refine wp_region_lit ?_  -- region 27
            refine fx_val (v := .int .i64 ((j : Nat) : Int)) fr rfl rfl (by decide) (x_move rfl (fr.ev rfl)) ?_
            clear fr a; intro a fr
            refine fx_val (v := .int .i64 ((j + 1 : Nat) : Int)) fr rfl rfl (by decide) (x_add rfl (fr.ev rfl) rfl (i64w (r := ((j + 1 : Nat) : Int)) (by omega) (by omega))) ?_
            clear fr a; intro a fr
            refine fx_val (v := .int .i64 ((j + 1 : Nat) : Int)) fr rfl rfl (by decide) (x_assign rfl (fr.ev rfl)) ?_
            clear fr a; intro a fr
            refine wpList_nil ?_
            refine fx_blk ?_
            refine fx_next ?_
            exact ⟨_, by omega, (j + 1), rfl, fr.sub ⟨rfl, rfl, rfl, rfl, rfl, rfl, rfl, rfl, rfl, rfl, rfl, rfl, rfl, rfl, rfl, rfl, rfl, rfl, rfl, rfl, rfl, rfl, rfl, rfl, rfl, rfl, rfl, rfl, rfl, rfl, rfl, rfl, rfl, rfl, rfl, rfl, rfl, rfl, rfl, rfl, trivial⟩, hF, hV, hK, Os, Oc2, O73, H79, B86, O92, by omega, fun q hq => rfl⟩
          · skip
            refine fx_held (n := 15) (fun w => View actE w P cp la ∧ View intE w K ck lp ∧ Own msgE w S sc sent ∧ Own msgE w C2 cc2 came2 ∧ Own msgE w A71 cap72 l2 ∧ NetAt w b4 A77 cap78 1024 l2 ∧ Blk w b83 26 (msgE.arr msg0) ∧ Own msgE w A90 cap91 l2 ∧ True) (by kernel_rfl) rfl ?_  -- region 26
            intro w106 hN107
            replace hV := hV.new hN107
            replace hK := hK.new hN107
            replace Os := Os.new hN107
            replace Oc2 := Oc2.new hN107
            replace O73 := O73.new hN107
            replace H79 := H79.new hN107
            replace B86 := B86.new hN107
            replace O92 := O92.new hN107
            replace hF := hF.trNew hN107
            refine fx_take (i := 0) (v := .int .i64 ((j : Nat) : Int)) fr rfl (by kernel_rfl) rfl rfl (by decide) (fun _ _ _ h => h) (fun _ ⟨hV, hK, Os, Oc2, O73, H79, B86, O92, _⟩ => x_move rfl (fr.ev rfl)) ⟨hV, hK, Os, Oc2, O73, H79, B86, O92, trivial⟩ ?_
            clear fr a; intro a fr
            refine fx_take (i := 1) (v := .slice A90 l2.length cap91) fr rfl (by kernel_rfl) rfl rfl (by decide) (fun _ _ _ h => h) (fun _ ⟨hV, hK, Os, Oc2, O73, H79, B86, O92, _⟩ => x_move rfl (fr.ev rfl)) ⟨hV, hK, Os, Oc2, O73, H79, B86, O92, trivial⟩ ?_
            clear fr a; intro a fr
            refine fx_take (i := 2) (v := .int .i64 ((l2.length : Nat) : Int)) fr rfl (by kernel_rfl) rfl rfl (by decide) (fun _ _ _ h => h) (fun _ ⟨hV, hK, Os, Oc2, O73, H79, B86, O92, _⟩ => x_len Try.underlying38 rfl (fr.ev rfl)) ⟨hV, hK, Os, Oc2, O73, H79, B86, O92, trivial⟩ ?_
            clear fr a; intro a fr
            refine fx_take (i := 3) (v := .bool false) fr rfl (by kernel_rfl) rfl rfl (by decide) (fun _ _ _ h => h) (fun _ ⟨hV, hK, Os, Oc2, O73, H79, B86, O92, _⟩ => x_lss rfl (fr.ev rfl) (fr.ev rfl) (decide_eq_false hjn)) ⟨hV, hK, Os, Oc2, O73, H79, B86, O92, trivial⟩ ?_
            clear fr a; intro a fr
            refine fx_take (i := 4) (v := .bool false) fr rfl (by kernel_rfl) rfl rfl (by decide) (fun _ _ _ h => h) (fun _ ⟨hV, hK, Os, Oc2, O73, H79, B86, O92, _⟩ => x_move rfl (fr.ev rfl)) ⟨hV, hK, Os, Oc2, O73, H79, B86, O92, trivial⟩ ?_
            clear fr a; intro a fr
            refine fx_takeskip (i := 5) fr rfl (by kernel_rfl) (fr.unwant rfl rfl rfl (by decide)) rfl (by decide) (fun _ _ _ h => h) ⟨hV, hK, Os, Oc2, O73, H79, B86, O92, trivial⟩ ?_
            clear fr a; intro a fr
            refine fx_takeskip (i := 6) fr rfl (by kernel_rfl) (fr.unwant rfl rfl rfl (by decide)) rfl (by decide) (fun _ _ _ h => h) ⟨hV, hK, Os, Oc2, O73, H79, B86, O92, trivial⟩ ?_
            clear fr a; intro a fr
            refine fx_takeskip (i := 7) fr rfl (by kernel_rfl) (fr.unwant rfl rfl rfl (by decide)) rfl (by decide) (fun _ _ _ h => h) ⟨hV, hK, Os, Oc2, O73, H79, B86, O92, trivial⟩ ?_
            clear fr a; intro a fr
            refine fx_takeskip (i := 8) fr rfl (by kernel_rfl) (fr.unwant rfl rfl rfl (by decide)) rfl (by decide) (fun _ _ _ h => h) ⟨hV, hK, Os, Oc2, O73, H79, B86, O92, trivial⟩ ?_
            clear fr a; intro a fr
            refine fx_takeskip (i := 9) fr rfl (by kernel_rfl) (fr.unwant rfl rfl rfl (by decide)) rfl (by decide) (fun _ _ _ h => h) ⟨hV, hK, Os, Oc2, O73, H79, B86, O92, trivial⟩ ?_
            clear fr a; intro a fr
            refine fx_takeskip (i := 10) fr rfl (by kernel_rfl) (fr.unwant rfl rfl rfl (by decide)) rfl (by decide) (fun _ _ _ h => h) ⟨hV, hK, Os, Oc2, O73, H79, B86, O92, trivial⟩ ?_
            clear fr a; intro a fr
            refine fx_takeskip (i := 11) fr rfl (by kernel_rfl) (fr.unwant rfl rfl rfl (by decide)) rfl (by decide) (fun _ _ _ h => h) ⟨hV, hK, Os, Oc2, O73, H79, B86, O92, trivial⟩ ?_
            clear fr a; intro a fr
            refine fx_takeskip (i := 12) fr rfl (by kernel_rfl) (fr.unwant rfl rfl rfl (by decide)) rfl (by decide) (fun _ _ _ h => h) ⟨hV, hK, Os, Oc2, O73, H79, B86, O92, trivial⟩ ?_
            clear fr a; intro a fr
            refine fx_takeskip (i := 13) fr rfl (by kernel_rfl) (fr.unwant rfl rfl rfl (by decide)) rfl (by decide) (fun _ _ _ h => h) ⟨hV, hK, Os, Oc2, O73, H79, B86, O92, trivial⟩ ?_
            clear fr a; intro a fr
            refine fx_take (i := 14) (v := .bool false) fr rfl (by kernel_rfl) rfl rfl (by decide) (fun _ _ _ h => h) (fun _ ⟨hV, hK, Os, Oc2, O73, H79, B86, O92, _⟩ => x_pick_f rfl (fr.ev rfl) rfl) ⟨hV, hK, Os, Oc2, O73, H79, B86, O92, trivial⟩ ?_
            clear fr a; intro a fr
            refine fx_hdone (by kernel_rfl) ?_
            refine fx_next ?_
            refine fx_cond_f fr rfl ?_
            refine wp_exit ?_
            refine fx_xt ?_
            refine fx_xt ?_
            refine fx_xx ?_
            refine fx_next ?_
            refine wp_seq ?_
            refine wp_seq ?_
            refine fx_held (n := 20) (fun w => View actE w P cp la ∧ View intE w K ck lp ∧ Own msgE w S sc sent ∧ Own msgE w C2 cc2 came2 ∧ Own msgE w A71 cap72 l2 ∧ NetAt w b4 A77 cap78 1024 l2 ∧ Blk w b83 26 (msgE.arr msg0) ∧ Own msgE w A90 cap91 l2 ∧ True) (by kernel_rfl) rfl ?_  -- region 28
            intro w108 hN109
            replace hV := hV.new hN109
            replace hK := hK.new hN109
            replace Os := Os.new hN109
            replace Oc2 := Oc2.new hN109
            replace O73 := O73.new hN109
            replace H79 := H79.new hN109
            replace B86 := B86.new hN109
            replace O92 := O92.new hN109
            replace hF := hF.trNew hN109
            refine fx_take (i := 0) (v := .bool false) fr rfl (by kernel_rfl) rfl rfl (by decide) (fun _ _ _ h => h) (fun _ ⟨hV, hK, Os, Oc2, O73, H79, B86, O92, _⟩ => x_move rfl (fr.ev rfl)) ⟨hV, hK, Os, Oc2, O73, H79, B86, O92, trivial⟩ ?_
            clear fr a; intro a fr
            refine fx_take (i := 1) (v := .bool false) fr rfl (by kernel_rfl) rfl rfl (by decide) (fun _ _ _ h => h) (fun _ ⟨hV, hK, Os, Oc2, O73, H79, B86, O92, _⟩ => x_move rfl (fr.ev rfl)) ⟨hV, hK, Os, Oc2, O73, H79, B86, O92, trivial⟩ ?_
            clear fr a; intro a fr
            refine fx_takeskip (i := 2) fr rfl (by kernel_rfl) (fr.unwant rfl rfl rfl (by decide)) rfl (by decide) (fun _ _ _ h => h) ⟨hV, hK, Os, Oc2, O73, H79, B86, O92, trivial⟩ ?_
            clear fr a; intro a fr
            refine fx_takeskip (i := 3) fr rfl (by kernel_rfl) (fr.unwant rfl rfl rfl (by decide)) rfl (by decide) (fun _ _ _ h => h) ⟨hV, hK, Os, Oc2, O73, H79, B86, O92, trivial⟩ ?_
            clear fr a; intro a fr
            refine fx_takeskip (i := 4) fr rfl (by kernel_rfl) (fr.unwant rfl rfl rfl (by decide)) rfl (by decide) (fun _ _ _ h => h) ⟨hV, hK, Os, Oc2, O73, H79, B86, O92, trivial⟩ ?_
            clear fr a; intro a fr
            refine fx_takeskip (i := 5) fr rfl (by kernel_rfl) (fr.unwant rfl rfl rfl (by decide)) rfl (by decide) (fun _ _ _ h => h) ⟨hV, hK, Os, Oc2, O73, H79, B86, O92, trivial⟩ ?_
            clear fr a; intro a fr
            refine fx_takeskip (i := 6) fr rfl (by kernel_rfl) (fr.unwant rfl rfl rfl (by decide)) rfl (by decide) (fun _ _ _ h => h) ⟨hV, hK, Os, Oc2, O73, H79, B86, O92, trivial⟩ ?_
            clear fr a; intro a fr
            refine fx_takeskip (i := 7) fr rfl (by kernel_rfl) (fr.unwant rfl rfl rfl (by decide)) rfl (by decide) (fun _ _ _ h => h) ⟨hV, hK, Os, Oc2, O73, H79, B86, O92, trivial⟩ ?_
            clear fr a; intro a fr
            refine fx_takeskip (i := 8) fr rfl (by kernel_rfl) (fr.unwant rfl rfl rfl (by decide)) rfl (by decide) (fun _ _ _ h => h) ⟨hV, hK, Os, Oc2, O73, H79, B86, O92, trivial⟩ ?_
            clear fr a; intro a fr
            refine fx_takeskip (i := 9) fr rfl (by kernel_rfl) (fr.unwant_u rfl rfl rfl) rfl (by decide) (fun _ _ _ h => h) ⟨hV, hK, Os, Oc2, O73, H79, B86, O92, trivial⟩ ?_
            clear fr a; intro a fr
            refine fx_takeskip (i := 10) fr rfl (by kernel_rfl) (fr.unwant_u rfl rfl rfl) rfl (by decide) (fun _ _ _ h => h) ⟨hV, hK, Os, Oc2, O73, H79, B86, O92, trivial⟩ ?_
            clear fr a; intro a fr
            refine fx_takeskip (i := 11) fr rfl (by kernel_rfl) (fr.unwant_u rfl rfl rfl) rfl (by decide) (fun _ _ _ h => h) ⟨hV, hK, Os, Oc2, O73, H79, B86, O92, trivial⟩ ?_
            clear fr a; intro a fr
            refine fx_takeskip (i := 12) fr rfl (by kernel_rfl) (fr.unwant_u rfl rfl rfl) rfl (by decide) (fun _ _ _ h => h) ⟨hV, hK, Os, Oc2, O73, H79, B86, O92, trivial⟩ ?_
            clear fr a; intro a fr
            refine fx_takeskip (i := 13) fr rfl (by kernel_rfl) (fr.unwant_u rfl rfl rfl) rfl (by decide) (fun _ _ _ h => h) ⟨hV, hK, Os, Oc2, O73, H79, B86, O92, trivial⟩ ?_
            clear fr a; intro a fr
            refine fx_takeskip (i := 14) fr rfl (by kernel_rfl) (fr.unwant_u rfl rfl rfl) rfl (by decide) (fun _ _ _ h => h) ⟨hV, hK, Os, Oc2, O73, H79, B86, O92, trivial⟩ ?_
            clear fr a; intro a fr
            refine fx_takeskip (i := 15) fr rfl (by kernel_rfl) (fr.unwant_u rfl rfl rfl) rfl (by decide) (fun _ _ _ h => h) ⟨hV, hK, Os, Oc2, O73, H79, B86, O92, trivial⟩ ?_
            clear fr a; intro a fr
            refine fx_takeskip (i := 16) fr rfl (by kernel_rfl) (fr.unwant_u rfl rfl rfl) rfl (by decide) (fun _ _ _ h => h) ⟨hV, hK, Os, Oc2, O73, H79, B86, O92, trivial⟩ ?_
            clear fr a; intro a fr
            refine fx_takeskip (i := 17) fr rfl (by kernel_rfl) (fr.unwant_u rfl rfl rfl) rfl (by decide) (fun _ _ _ h => h) ⟨hV, hK, Os, Oc2, O73, H79, B86, O92, trivial⟩ ?_
            clear fr a; intro a fr
            refine fx_takeskip (i := 18) fr rfl (by kernel_rfl) (fr.unwant rfl rfl rfl (by decide)) rfl (by decide) (fun _ _ _ h => h) ⟨hV, hK, Os, Oc2, O73, H79, B86, O92, trivial⟩ ?_
            clear fr a; intro a fr
            refine fx_take (i := 19) (v := .bool false) fr rfl (by kernel_rfl) rfl rfl (by decide) (fun _ _ _ h => h) (fun _ ⟨hV, hK, Os, Oc2, O73, H79, B86, O92, _⟩ => x_pick_f rfl (fr.ev rfl) rfl) ⟨hV, hK, Os, Oc2, O73, H79, B86, O92, trivial⟩ ?_
            clear fr a; intro a fr
            refine fx_hdone (by kernel_rfl) ?_
            refine fx_next ?_
            refine fx_cond_f fr rfl ?_
            refine wp_skip ?_
            refine fx_next ?_
            refine wp_seq ?_
            refine wp_region_lit ?_  -- region 30
            refine fx_val (v := .bool false) fr rfl rfl (by decide) (x_move rfl (fr.ev rfl)) ?_
            clear fr a; intro a fr
            refine wpList_nil ?_
            refine fx_next ?_
            refine fx_cond_f fr rfl ?_
            refine wp_skip ?_
            refine fx_blk ?_
            refine fx_next ?_
            refine wp_region_lit ?_  -- region 16
            refine fx_val (v := .int .i64 ((i : Nat) : Int)) fr rfl rfl (by decide) (x_move rfl (fr.ev rfl)) ?_
            clear fr a; intro a fr
            refine fx_val (v := .int .i64 ((i + 1 : Nat) : Int)) fr rfl rfl (by decide) (x_add rfl (fr.ev rfl) rfl (i64w (r := ((i + 1 : Nat) : Int)) (by omega) (by omega))) ?_
            clear fr a; intro a fr
            refine fx_val (v := .int .i64 ((i + 1 : Nat) : Int)) fr rfl rfl (by decide) (x_assign rfl (fr.ev rfl)) ?_
            clear fr a; intro a fr
            refine wpList_nil ?_
            refine fx_next ?_
            exact ⟨_, by omega, A77, cap78, l2, C2, cc2, came2, (i + 1), rfl, fr.sub ⟨rfl, rfl, rfl, rfl, rfl, rfl, rfl, rfl, trivial⟩, hF, hV, hK, H79, Os, Oc2, hJ.del_no hl0, by omega, ap2_A77_P.symm, ap2_P_C2, ap2_A77_K.symm, ap2_K_C2, ap2_A77_S, ap_C2_b4, ap2_A77_C2, ap2_S_C2, gA_A77, gA_C2⟩
        · skip
          have hl1 : 0 < ((l2.length : Nat) : Int) := by have := List.length_pos_iff.2 hl0; omega
          have hdl := del_len (pickOf lp i) hl0
          have hl2 : ¬ ((((delL (pickOf lp i) l2).length : Nat) : Int) ≠ ((l2.length : Nat) : Int) - 1) := by omega
          refine wp_region_lit ?_  -- region 20
          refine fx_val (v := .pointer (some ⟨b4, 0, none⟩)) fr rfl rfl (by decide) (x_move rfl (fr.ev rfl)) ?_
          clear fr a; intro a fr
          refine fx_call fr rfl rfl (by decide) (x_call (vs := [.pointer (some ⟨b4, 0, none⟩)]) rfl rfl ⟨(fr.ev rfl), trivial⟩ Try.func17 nm17 rfl) (ready_c H2 (by omega) (by omega)) ?_
          clear fr a
          rintro v w114 ⟨A110, cap111, rfl, O112, hA113, hN115⟩ a fr
          have ap2_P_A110 : Apart2 P A110 := (new_apart2 hA113 fun _ hg => hV.lt hg).symm
          have ap2_K_A110 : Apart2 K A110 := (new_apart2 hA113 fun _ hg => hK.lt hg).symm
          have ap_A110_b4 : Apart A110 b4 := new_apart hA113 H2.ltb
          have ap2_A2_A110 : Apart2 A2 A110 := (new_apart2 hA113 fun _ hg => H2.lt hg).symm
          have ap2_S_A110 : Apart2 S A110 := (new_apart2 hA113 fun _ hg => Os.lt hg).symm
          have ap2_C2_A110 : Apart2 C2 A110 := (new_apart2 hA113 fun _ hg => Oc2.lt hg).symm
          have gA_A110 := gA_new hF hA113
          replace hV := hV.new hN115
          replace hK := hK.new hN115
          replace H2 := H2.new hN115
          replace Os := Os.new hN115
          replace Oc2 := Oc2.new hN115
          replace hF := hF.trNew hN115
          refine fx_val (v := .slice A110 l2.length cap111) fr rfl rfl (by decide) (x_assign rfl (fr.ev rfl)) ?_
          clear fr a; intro a fr
          refine wpList_nil ?_
          refine fx_next ?_
          refine wp_seq ?_
          refine wp_region_lit ?_  -- region 21
          refine fx_val (v := .pointer (some ⟨b4, 0, none⟩)) fr rfl rfl (by decide) (x_move rfl (fr.ev rfl)) ?_
          clear fr a; intro a fr
          refine fx_val (v := .int .i64 (pickOf lp i)) fr rfl rfl (by decide) (x_move rfl (fr.ev rfl)) ?_
          clear fr a; intro a fr
          refine fx_call fr rfl rfl (by decide) (x_call (vs := [.pointer (some ⟨b4, 0, none⟩), .int .i64 (pickOf lp i)]) rfl rfl ⟨(fr.ev rfl), (fr.ev rfl), trivial⟩ Try.func16 nm16 rfl) (deliver_c (pickOf lp i) H2 (by omega) (by omega)) ?_
          clear fr a
          rintro v w120 ⟨rfl, A116, cap117, H118, hN121, mv119⟩ a fr
          have ap2_A116_P : Apart2 A116 P := moved_apart2 mv119 ap2_P_A2.symm fun _ hg => hV.lt hg
          have ap2_A116_K : Apart2 A116 K := moved_apart2 mv119 ap2_K_A2.symm fun _ hg => hK.lt hg
          have ap2_A116_S : Apart2 A116 S := moved_apart2 mv119 ap2_A2_S fun _ hg => Os.lt hg
          have ap2_A116_C2 : Apart2 A116 C2 := moved_apart2 mv119 ap2_A2_C2 fun _ hg => Oc2.lt hg
          have ap2_A116_A110 : Apart2 A116 A110 := moved_apart2 mv119 ap2_A2_A110 fun _ hg => O112.lt hg
          have gA_A116 := gA_moved hF mv119 gA_A2
          replace hV := hV.only hN121 (fun g hg h => h.elim ((Apart.ne1 ap_P_b4) g hg) ((fun g h1 h2 => ap2_P_A2 g h1 h2) g hg))
          replace hK := hK.only hN121 (fun g hg h => h.elim ((Apart.ne1 ap_K_b4) g hg) ((fun g h1 h2 => ap2_K_A2 g h1 h2) g hg))
          replace Os := Os.only hN121 (fun g hg h => h.elim ((Apart.ne1 ap_S_b4) g hg) ((fun g h1 h2 => ap2_A2_S.symm g h1 h2) g hg))
          replace Oc2 := Oc2.only hN121 (fun g hg h => h.elim ((Apart.ne1 ap_C2_b4) g hg) ((fun g h1 h2 => ap2_A2_C2.symm g h1 h2) g hg))
          replace O112 := O112.only hN121 (fun g hg h => h.elim ((Apart.ne1 ap_A110_b4) g hg) ((fun g h1 h2 => ap2_A2_A110.symm g h1 h2) g hg))
          replace hF := hF.loc2 hN121 (.inr g_b4) gA_A2
          clear H2
          rw [show decide (l2 ≠ []) = true from decide_eq_true hl0] at fr
          refine fx_val (v := .tuple #[.agg (msgE.arr (delM (pickOf lp i) l2)), .bool true]) fr rfl rfl (by decide) (x_move rfl (fr.ev rfl)) ?_
          clear fr a; intro a fr
          refine fx_val (v := .agg (msgE.arr (delM (pickOf lp i) l2))) fr rfl rfl (by decide) (x_extract rfl (fr.ev rfl) rfl) ?_
          clear fr a; intro a fr
          refine fx_val (v := .bool true) fr rfl rfl (by decide) (x_extract rfl (fr.ev rfl) rfl) ?_
          clear fr a; intro a fr
          refine fx_new fr rfl rfl (by decide) (x_alloc (z := .agg (#[.int .i64 0, .int .i64 0, .int .i64 0, .int .u32 0, .int .u8 0, .int .u8 0, .int .u8 0, .int .u8 0, .int .u8 0, .int .u8 0, .int .u8 0, .int .u8 0, .int .u8 0, .int .u8 0, .int .u8 0, .int .u8 0, .int .u8 0, .int .u8 0, .int .u8 0, .int .u8 0])) (cs := msgE.arr msg0) rfl (by kernel_rfl) rfl) ?_
          clear fr a
          intro b122 w123 hN124 B125 hb126 a fr
          have ap_P_b122 : Apart P b122 := hV.apart hb126
          have ap_K_b122 : Apart K b122 := hK.apart hb126
          have ap_S_b122 : Apart S b122 := Os.apart hb126
          have ap_C2_b122 : Apart C2 b122 := Oc2.apart hb126
          have ap_A110_b122 : Apart A110 b122 := O112.apart hb126
          have ne_b4_b122 : ¬ b4 = b122 := Nat.ne_of_lt (Nat.lt_of_lt_of_le H118.ltb hb126)
          have ap_A116_b122 : Apart A116 b122 := H118.apart hb126
          have g_b122 := Nat.le_trans hF.size hb126
          replace hV := hV.new hN124
          replace hK := hK.new hN124
          replace Os := Os.new hN124
          replace Oc2 := Oc2.new hN124
          replace O112 := O112.new hN124
          replace H118 := H118.new hN124
          replace hF := hF.trNew hN124
          refine fx_storeS sz26 rfl rfl rfl (fr.ev rfl) (fr.ev rfl) (msgE.all _) B125 (msgE.size _) (msgE.size _) fun w127 hO128 hBq => ?_
          replace hV := hV.only hO128 (Apart.ne1 ap_P_b122)
          replace hK := hK.only hO128 (Apart.ne1 ap_K_b122)
          replace Os := Os.only hO128 (Apart.ne1 ap_S_b122)
          replace Oc2 := Oc2.only hO128 (Apart.ne1 ap_C2_b122)
          replace O112 := O112.only hO128 (Apart.ne1 ap_A110_b122)
          replace H118 := H118.only hO128 (by show ¬ b4 = b122; omega) (Apart.ne1 ap_A116_b122)
          replace hF := hF.loc hO128 (.inr g_b122)
          replace B125 := hBq
          clear hBq
          refine fx_val (v := .bool true) fr rfl rfl (by decide) (x_assign rfl (fr.ev rfl)) ?_
          clear fr a; intro a fr
          refine wpList_nil ?_
          refine fx_next ?_
          refine wp_seq ?_
          refine wp_region_lit ?_  -- region 22
          refine fx_val (v := .pointer (some ⟨b4, 0, none⟩)) fr rfl rfl (by decide) (x_move rfl (fr.ev rfl)) ?_
          clear fr a; intro a fr
          refine fx_call fr rfl rfl (by decide) (x_call (vs := [.pointer (some ⟨b4, 0, none⟩)]) rfl rfl ⟨(fr.ev rfl), trivial⟩ Try.func17 nm17 rfl) (ready_c H118 (by omega) (by omega)) ?_
          clear fr a
          rintro v w133 ⟨A129, cap130, rfl, O131, hA132, hN134⟩ a fr
          have ap2_P_A129 : Apart2 P A129 := (new_apart2 hA132 fun _ hg => hV.lt hg).symm
          have ap2_K_A129 : Apart2 K A129 := (new_apart2 hA132 fun _ hg => hK.lt hg).symm
          have ap2_S_A129 : Apart2 S A129 := (new_apart2 hA132 fun _ hg => Os.lt hg).symm
          have ap2_C2_A129 : Apart2 C2 A129 := (new_apart2 hA132 fun _ hg => Oc2.lt hg).symm
          have ap2_A110_A129 : Apart2 A110 A129 := (new_apart2 hA132 fun _ hg => O112.lt hg).symm
          have ap_A129_b4 : Apart A129 b4 := new_apart hA132 H118.ltb
          have ap2_A116_A129 : Apart2 A116 A129 := (new_apart2 hA132 fun _ hg => H118.lt hg).symm
          have ap_A129_b122 : Apart A129 b122 := new_apart hA132 B125.lt
          have gA_A129 := gA_new hF hA132
          replace hV := hV.new hN134
          replace hK := hK.new hN134
          replace Os := Os.new hN134
          replace Oc2 := Oc2.new hN134
          replace O112 := O112.new hN134
          replace H118 := H118.new hN134
          replace B125 := B125.new hN134
          replace hF := hF.trNew hN134
          refine fx_val (v := .slice A129 ((delL (pickOf lp i) l2).length) cap130) fr rfl rfl (by decide) (x_assign rfl (fr.ev rfl)) ?_
          clear fr a; intro a fr
          refine wpList_nil ?_
          refine fx_next ?_
          refine wp_seq ?_
          refine wp_seq ?_
          refine wp_region_lit ?_  -- region 23
          refine fx_val (v := .bool true) fr rfl rfl (by decide) (x_move rfl (fr.ev rfl)) ?_
          clear fr a; intro a fr
          refine fx_val (v := .slice A110 l2.length cap111) fr rfl rfl (by decide) (x_move rfl (fr.ev rfl)) ?_
          clear fr a; intro a fr
          refine fx_val (v := .int .i64 ((l2.length : Nat) : Int)) fr rfl rfl (by decide) (x_len Try.underlying38 rfl (fr.ev rfl)) ?_
          clear fr a; intro a fr
          refine fx_val (v := .bool true) fr rfl rfl (by decide) (x_gtr rfl (fr.ev rfl) rfl (decide_eq_true hl1)) ?_
          clear fr a; intro a fr
          refine fx_val (v := .bool false) fr rfl rfl (by decide) (x_bneq Try.underlying4 rfl (fr.ev rfl) (fr.ev rfl) rfl) ?_
          clear fr a; intro a fr
          refine fx_val (v := .bool false) fr rfl rfl (by decide) (x_move rfl (fr.ev rfl)) ?_
          clear fr a; intro a fr
          refine fx_val (v := .bool true) fr (fr.want rfl rfl rfl) rfl (by decide) (x_move rfl (fr.ev rfl)) ?_
          clear fr a; intro a fr
          refine fx_val (v := .bool true) fr (fr.want rfl rfl rfl) rfl (by decide) (x_move rfl (fr.ev rfl)) ?_
          clear fr a; intro a fr
          refine fx_val (v := .slice A129 ((delL (pickOf lp i) l2).length) cap130) fr (fr.want rfl rfl rfl) rfl (by decide) (x_move rfl (fr.ev rfl)) ?_
          clear fr a; intro a fr
          refine fx_val (v := .int .i64 (((delL (pickOf lp i) l2).length : Nat) : Int)) fr (fr.want rfl rfl rfl) rfl (by decide) (x_len Try.underlying38 rfl (fr.ev rfl)) ?_
          clear fr a; intro a fr
          refine fx_val (v := .slice A110 l2.length cap111) fr (fr.want rfl rfl rfl) rfl (by decide) (x_move rfl (fr.ev rfl)) ?_
          clear fr a; intro a fr
          refine fx_val (v := .int .i64 ((l2.length : Nat) : Int)) fr (fr.want rfl rfl rfl) rfl (by decide) (x_len Try.underlying38 rfl (fr.ev rfl)) ?_
          clear fr a; intro a fr
          refine fx_val (v := .int .i64 (((l2.length : Nat) : Int) - 1)) fr (fr.want rfl rfl rfl) rfl (by decide) (x_sub rfl (fr.ev rfl) rfl (i64w (r := ((l2.length : Nat) : Int) - 1) (by omega) (by omega))) ?_
          clear fr a; intro a fr
          refine fx_val (v := .bool false) fr (fr.want rfl rfl rfl) rfl (by decide) (x_neq rfl (fr.ev rfl) (fr.ev rfl) (decide_eq_false hl2)) ?_
          clear fr a; intro a fr
          refine fx_val (v := .bool false) fr (fr.want rfl rfl rfl) rfl (by decide) (x_pick_t rfl (fr.ev rfl) (fr.ev rfl)) ?_
          clear fr a; intro a fr
          refine fx_val (v := .bool false) fr rfl rfl (by decide) (x_pick_f rfl (fr.ev rfl) (fr.ev rfl)) ?_
          clear fr a; intro a fr
          refine wpList_nil ?_
          refine fx_next ?_
          refine fx_cond_f fr rfl ?_
          refine wp_skip ?_
          refine fx_next ?_
          refine wp_seq ?_
          refine wp_region_lit ?_  -- region 25
          refine fx_val (v := .int .i64 0) fr rfl rfl (by decide) (x_assign rfl rfl) ?_
          clear fr a; intro a fr
          refine wpList_nil ?_
          refine fx_next ?_
          refine wp_seq ?_
          refine wp_block ?_
          refine fx_loop (fun nM a wL => ∃ j : Nat, nM = (delL (pickOf lp i) l2).length - j ∧ Fr 190 [(0, .slice P la.length cp), (1, .slice K lp.length ck), (5, .pointer (some ⟨b4, 0, none⟩)), (6, .int .i64 0), (7, .slice S sent.length sc), (8, .slice C2 came2.length cc2), (12, .int .i64 ((i : Nat) : Int)), (4, .bool false), (13, .int .i64 (pickOf lp i)), (87, .pointer (some ⟨b4, 0, none⟩)), (88, .slice A110 l2.length cap111), (14, .slice A110 l2.length cap111), (90, .pointer (some ⟨b4, 0, none⟩)), (91, .int .i64 (pickOf lp i)), (92, .tuple #[.agg (msgE.arr (delM (pickOf lp i) l2)), .bool true]), (89, .tuple #[.agg (msgE.arr (delM (pickOf lp i) l2)), .bool true]), (93, .agg (msgE.arr (delM (pickOf lp i) l2))), (94, .bool true), (15, .pointer (some ⟨b122, 0, none⟩)), (16, .bool true), (95, .pointer (some ⟨b4, 0, none⟩)), (96, .slice A129 ((delL (pickOf lp i) l2).length) cap130), (17, .slice A129 ((delL (pickOf lp i) l2).length) cap130), (97, .bool true), (98, .slice A110 l2.length cap111), (99, .int .i64 ((l2.length : Nat) : Int)), (100, .bool true), (101, .bool false), (102, .bool false), (103, .bool true), (104, .bool true), (105, .slice A129 ((delL (pickOf lp i) l2).length) cap130), (106, .int .i64 (((delL (pickOf lp i) l2).length : Nat) : Int)), (107, .slice A110 l2.length cap111), (108, .int .i64 ((l2.length : Nat) : Int)), (109, .int .i64 (((l2.length : Nat) : Int) - 1)), (110, .bool false), (111, .bool false), (112, .bool false), (18, .int .i64 ((j : Nat) : Int))] a ∧ Only (fun _ => False) w wL ∧ View actE wL P cp la ∧ View intE wL K ck lp ∧ Own msgE wL S sc sent ∧ Own msgE wL C2 cc2 came2 ∧ Own msgE wL A110 cap111 l2 ∧ NetAt wL b4 A116 cap117 1024 (delL (pickOf lp i) l2) ∧ Blk wL b122 26 (msgE.arr (delM (pickOf lp i) l2)) ∧ Own msgE wL A129 cap130 (delL (pickOf lp i) l2) ∧ j ≤ (delL (pickOf lp i) l2).length ∧ ∀ q, q < j → (delL (pickOf lp i) l2).getD q msg0 = l2.getD q msg0) (n0 := _) ⟨0, rfl, fr.sub ⟨rfl, rfl, rfl, rfl, rfl, rfl, rfl, rfl, rfl, rfl, rfl, rfl, rfl, rfl, rfl, rfl, rfl, rfl, rfl, rfl, rfl, rfl, rfl, rfl, rfl, rfl, rfl, rfl, rfl, rfl, rfl, rfl, rfl, rfl, rfl, rfl, rfl, rfl, rfl, rfl, trivial⟩, hF, hV, hK, Os, Oc2, O112, H118, B125, O131, by omega, fun q hq => absurd hq (by omega)⟩ ?_
          rintro n136 a w135 ⟨j, rfl, fr, hF, hV, hK, Os, Oc2, O112, H118, B125, O131, hjl, hall⟩
          refine wp_seq ?_
          refine wp_seq ?_
          rcases Decidable.em (((j : Nat) : Int) < (((delL (pickOf lp i) l2).length : Nat) : Int)) with hjn | hjn
          · skip
            refine fx_held (n := 15) (fun w => View actE w P cp la ∧ View intE w K ck lp ∧ Own msgE w S sc sent ∧ Own msgE w C2 cc2 came2 ∧ Own msgE w A110 cap111 l2 ∧ NetAt w b4 A116 cap117 1024 (delL (pickOf lp i) l2) ∧ Blk w b122 26 (msgE.arr (delM (pickOf lp i) l2)) ∧ Own msgE w A129 cap130 (delL (pickOf lp i) l2) ∧ True) (by kernel_rfl) rfl ?_  -- region 26
            intro w137 hN138
            replace hV := hV.new hN138
            replace hK := hK.new hN138
            replace Os := Os.new hN138
            replace Oc2 := Oc2.new hN138
            replace O112 := O112.new hN138
            replace H118 := H118.new hN138
            replace B125 := B125.new hN138
            replace O131 := O131.new hN138
            replace hF := hF.trNew hN138
            refine fx_take (i := 0) (v := .int .i64 ((j : Nat) : Int)) fr rfl (by kernel_rfl) rfl rfl (by decide) (fun _ _ _ h => h) (fun _ ⟨hV, hK, Os, Oc2, O112, H118, B125, O131, _⟩ => x_move rfl (fr.ev rfl)) ⟨hV, hK, Os, Oc2, O112, H118, B125, O131, trivial⟩ ?_
            clear fr a; intro a fr
            refine fx_take (i := 1) (v := .slice A129 ((delL (pickOf lp i) l2).length) cap130) fr rfl (by kernel_rfl) rfl rfl (by decide) (fun _ _ _ h => h) (fun _ ⟨hV, hK, Os, Oc2, O112, H118, B125, O131, _⟩ => x_move rfl (fr.ev rfl)) ⟨hV, hK, Os, Oc2, O112, H118, B125, O131, trivial⟩ ?_
            clear fr a; intro a fr
            refine fx_take (i := 2) (v := .int .i64 (((delL (pickOf lp i) l2).length : Nat) : Int)) fr rfl (by kernel_rfl) rfl rfl (by decide) (fun _ _ _ h => h) (fun _ ⟨hV, hK, Os, Oc2, O112, H118, B125, O131, _⟩ => x_len Try.underlying38 rfl (fr.ev rfl)) ⟨hV, hK, Os, Oc2, O112, H118, B125, O131, trivial⟩ ?_
            clear fr a; intro a fr
            refine fx_take (i := 3) (v := .bool true) fr rfl (by kernel_rfl) rfl rfl (by decide) (fun _ _ _ h => h) (fun _ ⟨hV, hK, Os, Oc2, O112, H118, B125, O131, _⟩ => x_lss rfl (fr.ev rfl) (fr.ev rfl) (decide_eq_true hjn)) ⟨hV, hK, Os, Oc2, O112, H118, B125, O131, trivial⟩ ?_
            clear fr a; intro a fr
            refine fx_take (i := 4) (v := .bool true) fr rfl (by kernel_rfl) rfl rfl (by decide) (fun _ _ _ h => h) (fun _ ⟨hV, hK, Os, Oc2, O112, H118, B125, O131, _⟩ => x_move rfl (fr.ev rfl)) ⟨hV, hK, Os, Oc2, O112, H118, B125, O131, trivial⟩ ?_
            clear fr a; intro a fr
            refine fx_take (i := 5) (v := .slice A129 ((delL (pickOf lp i) l2).length) cap130) fr rfl (by kernel_rfl) (fr.want rfl rfl rfl) rfl (by decide) (fun _ _ _ h => h) (fun _ ⟨hV, hK, Os, Oc2, O112, H118, B125, O131, _⟩ => x_move rfl (fr.ev rfl)) ⟨hV, hK, Os, Oc2, O112, H118, B125, O131, trivial⟩ ?_
            clear fr a; intro a fr
            refine fx_take (i := 6) (v := .int .i64 ((j : Nat) : Int)) fr rfl (by kernel_rfl) (fr.want rfl rfl rfl) rfl (by decide) (fun _ _ _ h => h) (fun _ ⟨hV, hK, Os, Oc2, O112, H118, B125, O131, _⟩ => x_move rfl (fr.ev rfl)) ⟨hV, hK, Os, Oc2, O112, H118, B125, O131, trivial⟩ ?_
            clear fr a; intro a fr
            obtain ⟨g139, o140, hA141⟩ := (O131.view).some_ (by omega)
            refine fx_take (i := 7) (v := .pointer (some ⟨g139, o140 + j * 20, none⟩)) fr rfl (by kernel_rfl) (fr.want rfl rfl rfl) rfl (by decide) (fun _ _ _ h => h) (fun _ ⟨hV, hK, Os, Oc2, O112, H118, B125, O131, _⟩ => x_indexV Try.underlying38 sz26 rfl (fr.ev rfl) hA141 (fr.ev rfl) (by omega) rfl) ⟨hV, hK, Os, Oc2, O112, H118, B125, O131, trivial⟩ ?_
            clear fr a; intro a fr
            refine fx_take (i := 8) (v := .agg (msgE.arr ((delL (pickOf lp i) l2).getD j msg0))) fr rfl (by kernel_rfl) (fr.want rfl rfl rfl) rfl (by decide) (fun _ _ _ h => h) (fun _ ⟨hV, hK, Os, Oc2, O112, H118, B125, O131, _⟩ => x_loadE (E := msgE) ag26 rfl rfl (fr.ev rfl) ((O131.view).elem hA141 j msg0 (by omega))) ⟨hV, hK, Os, Oc2, O112, H118, B125, O131, trivial⟩ ?_
            clear fr a; intro a fr
            refine fx_take (i := 9) (v := .slice A110 l2.length cap111) fr rfl (by kernel_rfl) (fr.want rfl rfl rfl) rfl (by decide) (fun _ _ _ h => h) (fun _ ⟨hV, hK, Os, Oc2, O112, H118, B125, O131, _⟩ => x_move rfl (fr.ev rfl)) ⟨hV, hK, Os, Oc2, O112, H118, B125, O131, trivial⟩ ?_
            clear fr a; intro a fr
            refine fx_take (i := 10) (v := .int .i64 ((j : Nat) : Int)) fr rfl (by kernel_rfl) (fr.want rfl rfl rfl) rfl (by decide) (fun _ _ _ h => h) (fun _ ⟨hV, hK, Os, Oc2, O112, H118, B125, O131, _⟩ => x_move rfl (fr.ev rfl)) ⟨hV, hK, Os, Oc2, O112, H118, B125, O131, trivial⟩ ?_
            clear fr a; intro a fr
            obtain ⟨g142, o143, hA144⟩ := (O112.view).some_ (by omega)
            refine fx_take (i := 11) (v := .pointer (some ⟨g142, o143 + j * 20, none⟩)) fr rfl (by kernel_rfl) (fr.want rfl rfl rfl) rfl (by decide) (fun _ _ _ h => h) (fun _ ⟨hV, hK, Os, Oc2, O112, H118, B125, O131, _⟩ => x_indexV Try.underlying38 sz26 rfl (fr.ev rfl) hA144 (fr.ev rfl) (by omega) rfl) ⟨hV, hK, Os, Oc2, O112, H118, B125, O131, trivial⟩ ?_
            clear fr a; intro a fr
            refine fx_take (i := 12) (v := .agg (msgE.arr (l2.getD j msg0))) fr rfl (by kernel_rfl) (fr.want rfl rfl rfl) rfl (by decide) (fun _ _ _ h => h) (fun _ ⟨hV, hK, Os, Oc2, O112, H118, B125, O131, _⟩ => x_loadE (E := msgE) ag26 rfl rfl (fr.ev rfl) ((O112.view).elem hA144 j msg0 (by omega))) ⟨hV, hK, Os, Oc2, O112, H118, B125, O131, trivial⟩ ?_
            clear fr a; intro a fr
            refine fx_take (i := 13) (v := .bool (decide (((delL (pickOf lp i) l2).getD j msg0) = (l2.getD j msg0)))) fr rfl (by kernel_rfl) (fr.want rfl rfl rfl) rfl (by decide) (fun _ _ _ h => h) (fun _ ⟨hV, hK, Os, Oc2, O112, H118, B125, O131, _⟩ => x_eqE msgER rfl rfl (fr.ev rfl) (fr.ev rfl) rfl) ⟨hV, hK, Os, Oc2, O112, H118, B125, O131, trivial⟩ ?_
            clear fr a; intro a fr
            refine fx_take (i := 14) (v := .bool (decide (((delL (pickOf lp i) l2).getD j msg0) = (l2.getD j msg0)))) fr rfl (by kernel_rfl) rfl rfl (by decide) (fun _ _ _ h => h) (fun _ ⟨hV, hK, Os, Oc2, O112, H118, B125, O131, _⟩ => x_pick_t rfl (fr.ev rfl) (fr.ev rfl)) ⟨hV, hK, Os, Oc2, O112, H118, B125, O131, trivial⟩ ?_
            clear fr a; intro a fr
            refine fx_hdone (by kernel_rfl) ?_
            refine fx_next ?_
            refine fx_cond fr rfl (fun hc145 => ?_) (fun hc145 => ?_)
            · skip
              have hc145 := of_decide_eq_true hc145
              refine wp_skip ?_
              refine fx_next ?_
              refine wp_block ?_
              refine wp_region_lit ?_  -- region 27
              refine fx_val (v := .int .i64 ((j : Nat) : Int)) fr rfl rfl (by decide) (x_move rfl (fr.ev rfl)) ?_
              clear fr a; intro a fr
              refine fx_val (v := .int .i64 ((j + 1 : Nat) : Int)) fr rfl rfl (by decide) (x_add rfl (fr.ev rfl) rfl (i64w (r := ((j + 1 : Nat) : Int)) (by omega) (by omega))) ?_
              clear fr a; intro a fr
              refine fx_val (v := .int .i64 ((j + 1 : Nat) : Int)) fr rfl rfl (by decide) (x_assign rfl (fr.ev rfl)) ?_
              clear fr a; intro a fr
              refine wpList_nil ?_
              refine fx_blk ?_
              refine fx_next ?_
              exact ⟨_, by omega, (j + 1), rfl, fr.sub ⟨rfl, rfl, rfl, rfl, rfl, rfl, rfl, rfl, rfl, rfl, rfl, rfl, rfl, rfl, rfl, rfl, rfl, rfl, rfl, rfl, rfl, rfl, rfl, rfl, rfl, rfl, rfl, rfl, rfl, rfl, rfl, rfl, rfl, rfl, rfl, rfl, rfl, rfl, rfl, rfl, trivial⟩, hF, hV, hK, Os, Oc2, O112, H118, B125, O131, by omega, fun q hq => by rcases Nat.lt_succ_iff_lt_or_eq.1 hq with h | rfl; exact hall q h; exact hc145⟩
            · skip
              have hc145 := of_decide_eq_false hc145
              refine wp_exit ?_
              refine fx_xt ?_
              refine fx_xt ?_
              refine fx_xx ?_
              refine fx_next ?_
              refine wp_seq ?_
              refine wp_seq ?_
              obtain ⟨hq1, hq2, hq3⟩ := at_ok hl0 hjl hall (fun _ => hc145)
              refine fx_held (n := 20) (fun w => View actE w P cp la ∧ View intE w K ck lp ∧ Own msgE w S sc sent ∧ Own msgE w C2 cc2 came2 ∧ Own msgE w A110 cap111 l2 ∧ NetAt w b4 A116 cap117 1024 (delL (pickOf lp i) l2) ∧ Blk w b122 26 (msgE.arr (delM (pickOf lp i) l2)) ∧ Own msgE w A129 cap130 (delL (pickOf lp i) l2) ∧ True) (by kernel_rfl) rfl ?_  -- region 28
              intro w146 hN147
              replace hV := hV.new hN147
              replace hK := hK.new hN147
              replace Os := Os.new hN147
              replace Oc2 := Oc2.new hN147
              replace O112 := O112.new hN147
              replace H118 := H118.new hN147
              replace B125 := B125.new hN147
              replace O131 := O131.new hN147
              replace hF := hF.trNew hN147
              refine fx_take (i := 0) (v := .bool true) fr rfl (by kernel_rfl) rfl rfl (by decide) (fun _ _ _ h => h) (fun _ ⟨hV, hK, Os, Oc2, O112, H118, B125, O131, _⟩ => x_move rfl (fr.ev rfl)) ⟨hV, hK, Os, Oc2, O112, H118, B125, O131, trivial⟩ ?_
              clear fr a; intro a fr
              refine fx_take (i := 1) (v := .bool true) fr rfl (by kernel_rfl) rfl rfl (by decide) (fun _ _ _ h => h) (fun _ ⟨hV, hK, Os, Oc2, O112, H118, B125, O131, _⟩ => x_move rfl (fr.ev rfl)) ⟨hV, hK, Os, Oc2, O112, H118, B125, O131, trivial⟩ ?_
              clear fr a; intro a fr
              refine fx_take (i := 2) (v := .slice A110 l2.length cap111) fr rfl (by kernel_rfl) (fr.want rfl rfl rfl) rfl (by decide) (fun _ _ _ h => h) (fun _ ⟨hV, hK, Os, Oc2, O112, H118, B125, O131, _⟩ => x_move rfl (fr.ev rfl)) ⟨hV, hK, Os, Oc2, O112, H118, B125, O131, trivial⟩ ?_
              clear fr a; intro a fr
              refine fx_take (i := 3) (v := .int .i64 ((j : Nat) : Int)) fr rfl (by kernel_rfl) (fr.want rfl rfl rfl) rfl (by decide) (fun _ _ _ h => h) (fun _ ⟨hV, hK, Os, Oc2, O112, H118, B125, O131, _⟩ => x_move rfl (fr.ev rfl)) ⟨hV, hK, Os, Oc2, O112, H118, B125, O131, trivial⟩ ?_
              clear fr a; intro a fr
              refine fx_take (i := 4) (v := .pointer (some ⟨g142, o143 + j * 20, none⟩)) fr rfl (by kernel_rfl) (fr.want rfl rfl rfl) rfl (by decide) (fun _ _ _ h => h) (fun _ ⟨hV, hK, Os, Oc2, O112, H118, B125, O131, _⟩ => x_indexV Try.underlying38 sz26 rfl (fr.ev rfl) hA144 (fr.ev rfl) (by omega) rfl) ⟨hV, hK, Os, Oc2, O112, H118, B125, O131, trivial⟩ ?_
              clear fr a; intro a fr
              refine fx_take (i := 5) (v := .agg (msgE.arr (l2.getD j msg0))) fr rfl (by kernel_rfl) (fr.want rfl rfl rfl) rfl (by decide) (fun _ _ _ h => h) (fun _ ⟨hV, hK, Os, Oc2, O112, H118, B125, O131, _⟩ => x_loadE (E := msgE) ag26 rfl rfl (fr.ev rfl) ((O112.view).elem hA144 j msg0 (by omega))) ⟨hV, hK, Os, Oc2, O112, H118, B125, O131, trivial⟩ ?_
              clear fr a; intro a fr
              refine fx_take (i := 6) (v := .agg (msgE.arr (delM (pickOf lp i) l2))) fr rfl (by kernel_rfl) (fr.want rfl rfl rfl) rfl (by decide) (fun _ _ _ h => h) (fun _ ⟨hV, hK, Os, Oc2, O112, H118, B125, O131, _⟩ => x_loadE (E := msgE) ag26 rfl rfl (fr.ev rfl) (B125.rangeE msgE)) ⟨hV, hK, Os, Oc2, O112, H118, B125, O131, trivial⟩ ?_
              clear fr a; intro a fr
              refine fx_take (i := 7) (v := .bool false) fr rfl (by kernel_rfl) (fr.want rfl rfl rfl) rfl (by decide) (fun _ _ _ h => h) (fun _ ⟨hV, hK, Os, Oc2, O112, H118, B125, O131, _⟩ => x_neE msgER rfl rfl (fr.ev rfl) (fr.ev rfl) (by rw [decide_eq_true hq1]; try rfl)) ⟨hV, hK, Os, Oc2, O112, H118, B125, O131, trivial⟩ ?_
              clear fr a; intro a fr
              refine fx_take (i := 8) (v := .bool false) fr rfl (by kernel_rfl) (fr.want rfl rfl rfl) rfl (by decide) (fun _ _ _ h => h) (fun _ ⟨hV, hK, Os, Oc2, O112, H118, B125, O131, _⟩ => x_move rfl (fr.ev rfl)) ⟨hV, hK, Os, Oc2, O112, H118, B125, O131, trivial⟩ ?_
              clear fr a; intro a fr
              refine fx_take (i := 9) (v := .slice A129 ((delL (pickOf lp i) l2).length) cap130) fr rfl (by kernel_rfl) (fr.want rfl rfl rfl) rfl (by decide) (fun _ _ _ h => h) (fun _ ⟨hV, hK, Os, Oc2, O112, H118, B125, O131, _⟩ => x_move rfl (fr.ev rfl)) ⟨hV, hK, Os, Oc2, O112, H118, B125, O131, trivial⟩ ?_
              clear fr a; intro a fr
              refine fx_take (i := 10) (v := .int .i64 ((j : Nat) : Int)) fr rfl (by kernel_rfl) (fr.want rfl rfl rfl) rfl (by decide) (fun _ _ _ h => h) (fun _ ⟨hV, hK, Os, Oc2, O112, H118, B125, O131, _⟩ => x_move rfl (fr.ev rfl)) ⟨hV, hK, Os, Oc2, O112, H118, B125, O131, trivial⟩ ?_
              clear fr a; intro a fr
              refine fx_take (i := 11) (v := .slice (cutA A129 cap130 j 20) (((delL (pickOf lp i) l2).length) - j) (cap130 - j)) fr rfl (by kernel_rfl) (fr.want rfl rfl rfl) rfl (by decide) (fun _ _ _ h => h) (fun _ ⟨hV, hK, Os, Oc2, O112, H118, B125, O131, _⟩ => x_slice_from Try.underlying38 sz26 rfl (fr.ev rfl) (fr.ev rfl) (by omega)) ⟨hV, hK, Os, Oc2, O112, H118, B125, O131, trivial⟩ ?_
              clear fr a; intro a fr
              refine fx_take (i := 12) (v := .slice A110 l2.length cap111) fr rfl (by kernel_rfl) (fr.want rfl rfl rfl) rfl (by decide) (fun _ _ _ h => h) (fun _ ⟨hV, hK, Os, Oc2, O112, H118, B125, O131, _⟩ => x_move rfl (fr.ev rfl)) ⟨hV, hK, Os, Oc2, O112, H118, B125, O131, trivial⟩ ?_
              clear fr a; intro a fr
              refine fx_take (i := 13) (v := .int .i64 ((j : Nat) : Int)) fr rfl (by kernel_rfl) (fr.want rfl rfl rfl) rfl (by decide) (fun _ _ _ h => h) (fun _ ⟨hV, hK, Os, Oc2, O112, H118, B125, O131, _⟩ => x_move rfl (fr.ev rfl)) ⟨hV, hK, Os, Oc2, O112, H118, B125, O131, trivial⟩ ?_
              clear fr a; intro a fr
              refine fx_take (i := 14) (v := .int .i64 ((j + 1 : Nat) : Int)) fr rfl (by kernel_rfl) (fr.want rfl rfl rfl) rfl (by decide) (fun _ _ _ h => h) (fun _ ⟨hV, hK, Os, Oc2, O112, H118, B125, O131, _⟩ => x_add rfl (fr.ev rfl) rfl (i64w (r := ((j + 1 : Nat) : Int)) (by omega) (by omega))) ⟨hV, hK, Os, Oc2, O112, H118, B125, O131, trivial⟩ ?_
              clear fr a; intro a fr
              refine fx_take (i := 15) (v := .slice (cutA A110 cap111 (j + 1) 20) (l2.length - (j + 1)) (cap111 - (j + 1))) fr rfl (by kernel_rfl) (fr.want rfl rfl rfl) rfl (by decide) (fun _ _ _ h => h) (fun _ ⟨hV, hK, Os, Oc2, O112, H118, B125, O131, _⟩ => x_slice_from Try.underlying38 sz26 rfl (fr.ev rfl) (fr.ev rfl) (by omega)) ⟨hV, hK, Os, Oc2, O112, H118, B125, O131, trivial⟩ ?_
              clear fr a; intro a fr
              refine fx_one (i := 16) (by kernel_rfl) (fx_op rfl ?_)
              refine fx_call fr (fr.want rfl rfl rfl) rfl (by decide) (x_call (vs := [.slice (cutA A129 cap130 j 20) (((delL (pickOf lp i) l2).length) - j) (cap130 - j), .slice (cutA A110 cap111 (j + 1) 20) (l2.length - (j + 1)) (cap111 - (j + 1))]) rfl rfl ⟨(fr.ev rfl), (fr.ev rfl), trivial⟩ Try.func18 nm18 rfl) (by simpa only [List.length_drop, show msgE.n = 20 from rfl] using same_c (((O131.view).drop j (by omega))) (((O112.view).drop (j + 1) (by omega)))) ?_
              clear fr a
              rintro v w148 ⟨rfl, hN149⟩ a fr
              replace hV := hV.new hN149
              replace hK := hK.new hN149
              replace Os := Os.new hN149
              replace Oc2 := Oc2.new hN149
              replace O112 := O112.new hN149
              replace H118 := H118.new hN149
              replace B125 := B125.new hN149
              replace O131 := O131.new hN149
              replace hF := hF.trNew hN149
              rw [show decide ((delL (pickOf lp i) l2).drop j = l2.drop (j + 1)) = true from decide_eq_true hq2] at fr
              refine wpList_nil ?_
              refine ⟨⟨hV, hK, Os, Oc2, O112, H118, B125, O131, trivial⟩, ?_⟩
              refine fx_take (i := 17) (v := .bool false) fr rfl (by kernel_rfl) (fr.want rfl rfl rfl) rfl (by decide) (fun _ _ _ h => h) (fun _ ⟨hV, hK, Os, Oc2, O112, H118, B125, O131, _⟩ => x_not rfl (fr.ev rfl) rfl) ⟨hV, hK, Os, Oc2, O112, H118, B125, O131, trivial⟩ ?_
              clear fr a; intro a fr
              refine fx_take (i := 18) (v := .bool false) fr rfl (by kernel_rfl) (fr.want rfl rfl rfl) rfl (by decide) (fun _ _ _ h => h) (fun _ ⟨hV, hK, Os, Oc2, O112, H118, B125, O131, _⟩ => x_pick_f rfl (fr.ev rfl) (fr.ev rfl)) ⟨hV, hK, Os, Oc2, O112, H118, B125, O131, trivial⟩ ?_
              clear fr a; intro a fr
              refine fx_take (i := 19) (v := .bool false) fr rfl (by kernel_rfl) rfl rfl (by decide) (fun _ _ _ h => h) (fun _ ⟨hV, hK, Os, Oc2, O112, H118, B125, O131, _⟩ => x_pick_t rfl (fr.ev rfl) (fr.ev rfl)) ⟨hV, hK, Os, Oc2, O112, H118, B125, O131, trivial⟩ ?_
              clear fr a; intro a fr
              refine fx_hdone (by kernel_rfl) ?_
              refine fx_next ?_
              refine fx_cond_f fr rfl ?_
              refine wp_skip ?_
              refine fx_next ?_
              refine wp_seq ?_
              refine wp_region_lit ?_  -- region 30
              refine fx_val (v := .bool true) fr rfl rfl (by decide) (x_move rfl (fr.ev rfl)) ?_
              clear fr a; intro a fr
              refine wpList_nil ?_
              refine fx_next ?_
              refine fx_cond_t fr rfl ?_
              refine wp_region_lit ?_  -- region 31
              refine fx_val (v := .slice C2 came2.length cc2) fr rfl rfl (by decide) (x_move rfl (fr.ev rfl)) ?_
              clear fr a; intro a fr
              refine fx_val (v := .agg (msgE.arr (delM (pickOf lp i) l2))) fr rfl rfl (by decide) (x_loadE (E := msgE) ag26 rfl rfl (fr.ev rfl) (B125.rangeE msgE)) ?_
              clear fr a; intro a fr
              refine fx_build1 (E := msgE) (p := (delM (pickOf lp i) l2)) el38 (by decide) fr rfl rfl (by decide) rfl (fr.ev rfl) ?_
              clear fr a
              intro A150 w151 hN152 O153 hA154 a fr
              have ap2_P_A150 : Apart2 P A150 := (new_apart2 hA154 fun _ hg => hV.lt hg).symm
              have ap2_K_A150 : Apart2 K A150 := (new_apart2 hA154 fun _ hg => hK.lt hg).symm
              have ap2_S_A150 : Apart2 S A150 := (new_apart2 hA154 fun _ hg => Os.lt hg).symm
              have ap2_C2_A150 : Apart2 C2 A150 := (new_apart2 hA154 fun _ hg => Oc2.lt hg).symm
              have ap2_A110_A150 : Apart2 A110 A150 := (new_apart2 hA154 fun _ hg => O112.lt hg).symm
              have ap_A150_b4 : Apart A150 b4 := new_apart hA154 H118.ltb
              have ap2_A116_A150 : Apart2 A116 A150 := (new_apart2 hA154 fun _ hg => H118.lt hg).symm
              have ap_A150_b122 : Apart A150 b122 := new_apart hA154 B125.lt
              have ap2_A129_A150 : Apart2 A129 A150 := (new_apart2 hA154 fun _ hg => O131.lt hg).symm
              have gA_A150 := gA_new hF hA154
              replace hV := hV.new hN152
              replace hK := hK.new hN152
              replace Os := Os.new hN152
              replace Oc2 := Oc2.new hN152
              replace O112 := O112.new hN152
              replace H118 := H118.new hN152
              replace B125 := B125.new hN152
              replace O131 := O131.new hN152
              replace hF := hF.trNew hN152
              refine fx_append (E := msgE) (l := came2) (l' := [(delM (pickOf lp i) l2)]) el38 fr rfl rfl (by decide) rfl (fr.ev rfl) (fr.ev rfl) (by first | rfl | (simp; done) | (simp; omega)) (by first | rfl | (simp; done) | (simp; omega)) Oc2 O153.view (by first | omega | (simp; omega)) (by unfold maxLen; first | omega | (simp; omega)) ?_
              clear fr a
              intro A155 cap156 w157 O158 hO159 mv160 a fr
              have ap2_A155_P : Apart2 A155 P := moved_apart2 mv160 ap2_P_C2.symm fun _ hg => hV.lt hg
              have ap2_A155_K : Apart2 A155 K := moved_apart2 mv160 ap2_K_C2.symm fun _ hg => hK.lt hg
              have ap2_A155_S : Apart2 A155 S := moved_apart2 mv160 ap2_S_C2.symm fun _ hg => Os.lt hg
              have ap2_A155_A110 : Apart2 A155 A110 := moved_apart2 mv160 ap2_C2_A110 fun _ hg => O112.lt hg
              have ap_A155_b4 : Apart A155 b4 := moved_apart mv160 ap_C2_b4 H118.ltb
              have ap2_A155_A116 : Apart2 A155 A116 := moved_apart2 mv160 ap2_A116_C2.symm fun _ hg => H118.lt hg
              have ap_A155_b122 : Apart A155 b122 := moved_apart mv160 ap_C2_b122 B125.lt
              have ap2_A155_A129 : Apart2 A155 A129 := moved_apart2 mv160 ap2_C2_A129 fun _ hg => O131.lt hg
              have ap2_A155_A150 : Apart2 A155 A150 := moved_apart2 mv160 ap2_C2_A150 fun _ hg => O153.lt hg
              have gA_A155 := gA_moved hF mv160 gA_C2
              replace hV := hV.only hO159 (fun g h1 h2 => ap2_P_C2 g h1 h2)
              replace hK := hK.only hO159 (fun g h1 h2 => ap2_K_C2 g h1 h2)
              replace Os := Os.only hO159 (fun g h1 h2 => ap2_S_C2 g h1 h2)
              replace O112 := O112.only hO159 (fun g h1 h2 => ap2_C2_A110.symm g h1 h2)
              replace H118 := H118.only hO159 ap_C2_b4 (fun g h1 h2 => ap2_A116_C2 g h1 h2)
              replace B125 := B125.only hO159 ap_C2_b122
              replace O131 := O131.only hO159 (fun g h1 h2 => ap2_C2_A129.symm g h1 h2)
              replace O153 := O153.only hO159 (fun g h1 h2 => ap2_C2_A150.symm g h1 h2)
              replace hF := hF.locA hO159 gA_C2
              clear Oc2
              refine fx_val (v := .slice A155 ((came2 ++ ([(delM (pickOf lp i) l2)])).length) cap156) fr rfl rfl (by decide) (x_assign rfl (fr.ev rfl)) ?_
              clear fr a; intro a fr
              refine wpList_nil ?_
              refine fx_blk ?_
              refine fx_next ?_
              refine wp_region_lit ?_  -- region 16
              refine fx_val (v := .int .i64 ((i : Nat) : Int)) fr rfl rfl (by decide) (x_move rfl (fr.ev rfl)) ?_
              clear fr a; intro a fr
              refine fx_val (v := .int .i64 ((i + 1 : Nat) : Int)) fr rfl rfl (by decide) (x_add rfl (fr.ev rfl) rfl (i64w (r := ((i + 1 : Nat) : Int)) (by omega) (by omega))) ?_
              clear fr a; intro a fr
              refine fx_val (v := .int .i64 ((i + 1 : Nat) : Int)) fr rfl rfl (by decide) (x_assign rfl (fr.ev rfl)) ?_
              clear fr a; intro a fr
              refine wpList_nil ?_
              refine fx_next ?_
              exact ⟨_, by omega, A116, cap117, (delL (pickOf lp i) l2), A155, cap156, (came2 ++ ([(delM (pickOf lp i) l2)])), (i + 1), rfl, fr.sub ⟨rfl, rfl, rfl, rfl, rfl, rfl, rfl, rfl, trivial⟩, hF, hV, hK, H118, Os, O158, hJ.del_ok hl0, by omega, ap2_A116_P.symm, ap2_A155_P.symm, ap2_A116_K.symm, ap2_A155_K.symm, ap2_A116_S, ap_A155_b4, ap2_A155_A116.symm, ap2_A155_S.symm, gA_A116, gA_A155⟩
          · skip
            refine fx_held (n := 15) (fun w => View actE w P cp la ∧ View intE w K ck lp ∧ Own msgE w S sc sent ∧ Own msgE w C2 cc2 came2 ∧ Own msgE w A110 cap111 l2 ∧ NetAt w b4 A116 cap117 1024 (delL (pickOf lp i) l2) ∧ Blk w b122 26 (msgE.arr (delM (pickOf lp i) l2)) ∧ Own msgE w A129 cap130 (delL (pickOf lp i) l2) ∧ True) (by kernel_rfl) rfl ?_  -- region 26
            intro w161 hN162
            replace hV := hV.new hN162
            replace hK := hK.new hN162
            replace Os := Os.new hN162
            replace Oc2 := Oc2.new hN162
            replace O112 := O112.new hN162
            replace H118 := H118.new hN162
            replace B125 := B125.new hN162
            replace O131 := O131.new hN162
            replace hF := hF.trNew hN162
            refine fx_take (i := 0) (v := .int .i64 ((j : Nat) : Int)) fr rfl (by kernel_rfl) rfl rfl (by decide) (fun _ _ _ h => h) (fun _ ⟨hV, hK, Os, Oc2, O112, H118, B125, O131, _⟩ => x_move rfl (fr.ev rfl)) ⟨hV, hK, Os, Oc2, O112, H118, B125, O131, trivial⟩ ?_
            clear fr a; intro a fr
            refine fx_take (i := 1) (v := .slice A129 ((delL (pickOf lp i) l2).length) cap130) fr rfl (by kernel_rfl) rfl rfl (by decide) (fun _ _ _ h => h) (fun _ ⟨hV, hK, Os, Oc2, O112, H118, B125, O131, _⟩ => x_move rfl (fr.ev rfl)) ⟨hV, hK, Os, Oc2, O112, H118, B125, O131, trivial⟩ ?_
            clear fr a; intro a fr
            refine fx_take (i := 2) (v := .int .i64 (((delL (pickOf lp i) l2).length : Nat) : Int)) fr rfl (by kernel_rfl) rfl rfl (by decide) (fun _ _ _ h => h) (fun _ ⟨hV, hK, Os, Oc2, O112, H118, B125, O131, _⟩ => x_len Try.underlying38 rfl (fr.ev rfl)) ⟨hV, hK, Os, Oc2, O112, H118, B125, O131, trivial⟩ ?_
            clear fr a; intro a fr
            refine fx_take (i := 3) (v := .bool false) fr rfl (by kernel_rfl) rfl rfl (by decide) (fun _ _ _ h => h) (fun _ ⟨hV, hK, Os, Oc2, O112, H118, B125, O131, _⟩ => x_lss rfl (fr.ev rfl) (fr.ev rfl) (decide_eq_false hjn)) ⟨hV, hK, Os, Oc2, O112, H118, B125, O131, trivial⟩ ?_
            clear fr a; intro a fr
            refine fx_take (i := 4) (v := .bool false) fr rfl (by kernel_rfl) rfl rfl (by decide) (fun _ _ _ h => h) (fun _ ⟨hV, hK, Os, Oc2, O112, H118, B125, O131, _⟩ => x_move rfl (fr.ev rfl)) ⟨hV, hK, Os, Oc2, O112, H118, B125, O131, trivial⟩ ?_
            clear fr a; intro a fr
            refine fx_takeskip (i := 5) fr rfl (by kernel_rfl) (fr.unwant rfl rfl rfl (by decide)) rfl (by decide) (fun _ _ _ h => h) ⟨hV, hK, Os, Oc2, O112, H118, B125, O131, trivial⟩ ?_
            clear fr a; intro a fr
            refine fx_takeskip (i := 6) fr rfl (by kernel_rfl) (fr.unwant rfl rfl rfl (by decide)) rfl (by decide) (fun _ _ _ h => h) ⟨hV, hK, Os, Oc2, O112, H118, B125, O131, trivial⟩ ?_
            clear fr a; intro a fr
            refine fx_takeskip (i := 7) fr rfl (by kernel_rfl) (fr.unwant rfl rfl rfl (by decide)) rfl (by decide) (fun _ _ _ h => h) ⟨hV, hK, Os, Oc2, O112, H118, B125, O131, trivial⟩ ?_
            clear fr a; intro a fr
            refine fx_takeskip (i := 8) fr rfl (by kernel_rfl) (fr.unwant rfl rfl rfl (by decide)) rfl (by decide) (fun _ _ _ h => h) ⟨hV, hK, Os, Oc2, O112, H118, B125, O131, trivial⟩ ?_
            clear fr a; intro a fr
            refine fx_takeskip (i := 9) fr rfl (by kernel_rfl) (fr.unwant rfl rfl rfl (by decide)) rfl (by decide) (fun _ _ _ h => h) ⟨hV, hK, Os, Oc2, O112, H118, B125, O131, trivial⟩ ?_
            clear fr a; intro a fr
            refine fx_takeskip (i := 10) fr rfl (by kernel_rfl) (fr.unwant rfl rfl rfl (by decide)) rfl (by decide) (fun _ _ _ h => h) ⟨hV, hK, Os, Oc2, O112, H118, B125, O131, trivial⟩ ?_
            clear fr a; intro a fr
            refine fx_takeskip (i := 11) fr rfl (by kernel_rfl) (fr.unwant rfl rfl rfl (by decide)) rfl (by decide) (fun _ _ _ h => h) ⟨hV, hK, Os, Oc2, O112, H118, B125, O131, trivial⟩ ?_
            clear fr a; intro a fr
            refine fx_takeskip (i := 12) fr rfl (by kernel_rfl) (fr.unwant rfl rfl rfl (by decide)) rfl (by decide) (fun _ _ _ h => h) ⟨hV, hK, Os, Oc2, O112, H118, B125, O131, trivial⟩ ?_
            clear fr a; intro a fr
            refine fx_takeskip (i := 13) fr rfl (by kernel_rfl) (fr.unwant rfl rfl rfl (by decide)) rfl (by decide) (fun _ _ _ h => h) ⟨hV, hK, Os, Oc2, O112, H118, B125, O131, trivial⟩ ?_
            clear fr a; intro a fr
            refine fx_take (i := 14) (v := .bool false) fr rfl (by kernel_rfl) rfl rfl (by decide) (fun _ _ _ h => h) (fun _ ⟨hV, hK, Os, Oc2, O112, H118, B125, O131, _⟩ => x_pick_f rfl (fr.ev rfl) rfl) ⟨hV, hK, Os, Oc2, O112, H118, B125, O131, trivial⟩ ?_
            clear fr a; intro a fr
            refine fx_hdone (by kernel_rfl) ?_
            refine fx_next ?_
            refine fx_cond_f fr rfl ?_
            refine wp_exit ?_
            refine fx_xt ?_
            refine fx_xt ?_
            refine fx_xx ?_
            refine fx_next ?_
            refine wp_seq ?_
            refine wp_seq ?_
            obtain ⟨hq1, hq2, hq3⟩ := at_ok hl0 hjl hall (fun h => absurd h (by omega))
            refine fx_held (n := 20) (fun w => View actE w P cp la ∧ View intE w K ck lp ∧ Own msgE w S sc sent ∧ Own msgE w C2 cc2 came2 ∧ Own msgE w A110 cap111 l2 ∧ NetAt w b4 A116 cap117 1024 (delL (pickOf lp i) l2) ∧ Blk w b122 26 (msgE.arr (delM (pickOf lp i) l2)) ∧ Own msgE w A129 cap130 (delL (pickOf lp i) l2) ∧ True) (by kernel_rfl) rfl ?_  -- region 28
            intro w163 hN164
            replace hV := hV.new hN164
            replace hK := hK.new hN164
            replace Os := Os.new hN164
            replace Oc2 := Oc2.new hN164
            replace O112 := O112.new hN164
            replace H118 := H118.new hN164
            replace B125 := B125.new hN164
            replace O131 := O131.new hN164
            replace hF := hF.trNew hN164
            refine fx_take (i := 0) (v := .bool true) fr rfl (by kernel_rfl) rfl rfl (by decide) (fun _ _ _ h => h) (fun _ ⟨hV, hK, Os, Oc2, O112, H118, B125, O131, _⟩ => x_move rfl (fr.ev rfl)) ⟨hV, hK, Os, Oc2, O112, H118, B125, O131, trivial⟩ ?_
            clear fr a; intro a fr
            refine fx_take (i := 1) (v := .bool true) fr rfl (by kernel_rfl) rfl rfl (by decide) (fun _ _ _ h => h) (fun _ ⟨hV, hK, Os, Oc2, O112, H118, B125, O131, _⟩ => x_move rfl (fr.ev rfl)) ⟨hV, hK, Os, Oc2, O112, H118, B125, O131, trivial⟩ ?_
            clear fr a; intro a fr
            refine fx_take (i := 2) (v := .slice A110 l2.length cap111) fr rfl (by kernel_rfl) (fr.want rfl rfl rfl) rfl (by decide) (fun _ _ _ h => h) (fun _ ⟨hV, hK, Os, Oc2, O112, H118, B125, O131, _⟩ => x_move rfl (fr.ev rfl)) ⟨hV, hK, Os, Oc2, O112, H118, B125, O131, trivial⟩ ?_
            clear fr a; intro a fr
            refine fx_take (i := 3) (v := .int .i64 ((j : Nat) : Int)) fr rfl (by kernel_rfl) (fr.want rfl rfl rfl) rfl (by decide) (fun _ _ _ h => h) (fun _ ⟨hV, hK, Os, Oc2, O112, H118, B125, O131, _⟩ => x_move rfl (fr.ev rfl)) ⟨hV, hK, Os, Oc2, O112, H118, B125, O131, trivial⟩ ?_
            clear fr a; intro a fr
            obtain ⟨g165, o166, hA167⟩ := (O112.view).some_ (by omega)
            refine fx_take (i := 4) (v := .pointer (some ⟨g165, o166 + j * 20, none⟩)) fr rfl (by kernel_rfl) (fr.want rfl rfl rfl) rfl (by decide) (fun _ _ _ h => h) (fun _ ⟨hV, hK, Os, Oc2, O112, H118, B125, O131, _⟩ => x_indexV Try.underlying38 sz26 rfl (fr.ev rfl) hA167 (fr.ev rfl) (by omega) rfl) ⟨hV, hK, Os, Oc2, O112, H118, B125, O131, trivial⟩ ?_
            clear fr a; intro a fr
            refine fx_take (i := 5) (v := .agg (msgE.arr (l2.getD j msg0))) fr rfl (by kernel_rfl) (fr.want rfl rfl rfl) rfl (by decide) (fun _ _ _ h => h) (fun _ ⟨hV, hK, Os, Oc2, O112, H118, B125, O131, _⟩ => x_loadE (E := msgE) ag26 rfl rfl (fr.ev rfl) ((O112.view).elem hA167 j msg0 (by omega))) ⟨hV, hK, Os, Oc2, O112, H118, B125, O131, trivial⟩ ?_
            clear fr a; intro a fr
            refine fx_take (i := 6) (v := .agg (msgE.arr (delM (pickOf lp i) l2))) fr rfl (by kernel_rfl) (fr.want rfl rfl rfl) rfl (by decide) (fun _ _ _ h => h) (fun _ ⟨hV, hK, Os, Oc2, O112, H118, B125, O131, _⟩ => x_loadE (E := msgE) ag26 rfl rfl (fr.ev rfl) (B125.rangeE msgE)) ⟨hV, hK, Os, Oc2, O112, H118, B125, O131, trivial⟩ ?_
            clear fr a; intro a fr
            refine fx_take (i := 7) (v := .bool false) fr rfl (by kernel_rfl) (fr.want rfl rfl rfl) rfl (by decide) (fun _ _ _ h => h) (fun _ ⟨hV, hK, Os, Oc2, O112, H118, B125, O131, _⟩ => x_neE msgER rfl rfl (fr.ev rfl) (fr.ev rfl) (by rw [decide_eq_true hq1]; try rfl)) ⟨hV, hK, Os, Oc2, O112, H118, B125, O131, trivial⟩ ?_
            clear fr a; intro a fr
            refine fx_take (i := 8) (v := .bool false) fr rfl (by kernel_rfl) (fr.want rfl rfl rfl) rfl (by decide) (fun _ _ _ h => h) (fun _ ⟨hV, hK, Os, Oc2, O112, H118, B125, O131, _⟩ => x_move rfl (fr.ev rfl)) ⟨hV, hK, Os, Oc2, O112, H118, B125, O131, trivial⟩ ?_
            clear fr a; intro a fr
            refine fx_take (i := 9) (v := .slice A129 ((delL (pickOf lp i) l2).length) cap130) fr rfl (by kernel_rfl) (fr.want rfl rfl rfl) rfl (by decide) (fun _ _ _ h => h) (fun _ ⟨hV, hK, Os, Oc2, O112, H118, B125, O131, _⟩ => x_move rfl (fr.ev rfl)) ⟨hV, hK, Os, Oc2, O112, H118, B125, O131, trivial⟩ ?_
            clear fr a; intro a fr
            refine fx_take (i := 10) (v := .int .i64 ((j : Nat) : Int)) fr rfl (by kernel_rfl) (fr.want rfl rfl rfl) rfl (by decide) (fun _ _ _ h => h) (fun _ ⟨hV, hK, Os, Oc2, O112, H118, B125, O131, _⟩ => x_move rfl (fr.ev rfl)) ⟨hV, hK, Os, Oc2, O112, H118, B125, O131, trivial⟩ ?_
            clear fr a; intro a fr
            refine fx_take (i := 11) (v := .slice (cutA A129 cap130 j 20) (((delL (pickOf lp i) l2).length) - j) (cap130 - j)) fr rfl (by kernel_rfl) (fr.want rfl rfl rfl) rfl (by decide) (fun _ _ _ h => h) (fun _ ⟨hV, hK, Os, Oc2, O112, H118, B125, O131, _⟩ => x_slice_from Try.underlying38 sz26 rfl (fr.ev rfl) (fr.ev rfl) (by omega)) ⟨hV, hK, Os, Oc2, O112, H118, B125, O131, trivial⟩ ?_
            clear fr a; intro a fr
            refine fx_take (i := 12) (v := .slice A110 l2.length cap111) fr rfl (by kernel_rfl) (fr.want rfl rfl rfl) rfl (by decide) (fun _ _ _ h => h) (fun _ ⟨hV, hK, Os, Oc2, O112, H118, B125, O131, _⟩ => x_move rfl (fr.ev rfl)) ⟨hV, hK, Os, Oc2, O112, H118, B125, O131, trivial⟩ ?_
            clear fr a; intro a fr
            refine fx_take (i := 13) (v := .int .i64 ((j : Nat) : Int)) fr rfl (by kernel_rfl) (fr.want rfl rfl rfl) rfl (by decide) (fun _ _ _ h => h) (fun _ ⟨hV, hK, Os, Oc2, O112, H118, B125, O131, _⟩ => x_move rfl (fr.ev rfl)) ⟨hV, hK, Os, Oc2, O112, H118, B125, O131, trivial⟩ ?_
            clear fr a; intro a fr
            refine fx_take (i := 14) (v := .int .i64 ((j + 1 : Nat) : Int)) fr rfl (by kernel_rfl) (fr.want rfl rfl rfl) rfl (by decide) (fun _ _ _ h => h) (fun _ ⟨hV, hK, Os, Oc2, O112, H118, B125, O131, _⟩ => x_add rfl (fr.ev rfl) rfl (i64w (r := ((j + 1 : Nat) : Int)) (by omega) (by omega))) ⟨hV, hK, Os, Oc2, O112, H118, B125, O131, trivial⟩ ?_
            clear fr a; intro a fr
            refine fx_take (i := 15) (v := .slice (cutA A110 cap111 (j + 1) 20) (l2.length - (j + 1)) (cap111 - (j + 1))) fr rfl (by kernel_rfl) (fr.want rfl rfl rfl) rfl (by decide) (fun _ _ _ h => h) (fun _ ⟨hV, hK, Os, Oc2, O112, H118, B125, O131, _⟩ => x_slice_from Try.underlying38 sz26 rfl (fr.ev rfl) (fr.ev rfl) (by omega)) ⟨hV, hK, Os, Oc2, O112, H118, B125, O131, trivial⟩ ?_
            clear fr a; intro a fr
            refine fx_one (i := 16) (by kernel_rfl) (fx_op rfl ?_)
            refine fx_call fr (fr.want rfl rfl rfl) rfl (by decide) (x_call (vs := [.slice (cutA A129 cap130 j 20) (((delL (pickOf lp i) l2).length) - j) (cap130 - j), .slice (cutA A110 cap111 (j + 1) 20) (l2.length - (j + 1)) (cap111 - (j + 1))]) rfl rfl ⟨(fr.ev rfl), (fr.ev rfl), trivial⟩ Try.func18 nm18 rfl) (by simpa only [List.length_drop, show msgE.n = 20 from rfl] using same_c (((O131.view).drop j (by omega))) (((O112.view).drop (j + 1) (by omega)))) ?_
            clear fr a
            rintro v w168 ⟨rfl, hN169⟩ a fr
            replace hV := hV.new hN169
            replace hK := hK.new hN169
            replace Os := Os.new hN169
            replace Oc2 := Oc2.new hN169
            replace O112 := O112.new hN169
            replace H118 := H118.new hN169
            replace B125 := B125.new hN169
            replace O131 := O131.new hN169
            replace hF := hF.trNew hN169
            rw [show decide ((delL (pickOf lp i) l2).drop j = l2.drop (j + 1)) = true from decide_eq_true hq2] at fr
            refine wpList_nil ?_
            refine ⟨⟨hV, hK, Os, Oc2, O112, H118, B125, O131, trivial⟩, ?_⟩
            refine fx_take (i := 17) (v := .bool false) fr rfl (by kernel_rfl) (fr.want rfl rfl rfl) rfl (by decide) (fun _ _ _ h => h) (fun _ ⟨hV, hK, Os, Oc2, O112, H118, B125, O131, _⟩ => x_not rfl (fr.ev rfl) rfl) ⟨hV, hK, Os, Oc2, O112, H118, B125, O131, trivial⟩ ?_
            clear fr a; intro a fr
            refine fx_take (i := 18) (v := .bool false) fr rfl (by kernel_rfl) (fr.want rfl rfl rfl) rfl (by decide) (fun _ _ _ h => h) (fun _ ⟨hV, hK, Os, Oc2, O112, H118, B125, O131, _⟩ => x_pick_f rfl (fr.ev rfl) (fr.ev rfl)) ⟨hV, hK, Os, Oc2, O112, H118, B125, O131, trivial⟩ ?_
            clear fr a; intro a fr
            refine fx_take (i := 19) (v := .bool false) fr rfl (by kernel_rfl) rfl rfl (by decide) (fun _ _ _ h => h) (fun _ ⟨hV, hK, Os, Oc2, O112, H118, B125, O131, _⟩ => x_pick_t rfl (fr.ev rfl) (fr.ev rfl)) ⟨hV, hK, Os, Oc2, O112, H118, B125, O131, trivial⟩ ?_
            clear fr a; intro a fr
            refine fx_hdone (by kernel_rfl) ?_
            refine fx_next ?_
            refine fx_cond_f fr rfl ?_
            refine wp_skip ?_
            refine fx_next ?_
            refine wp_seq ?_
            refine wp_region_lit ?_  -- region 30
            refine fx_val (v := .bool true) fr rfl rfl (by decide) (x_move rfl (fr.ev rfl)) ?_
            clear fr a; intro a fr
            refine wpList_nil ?_
            refine fx_next ?_
            refine fx_cond_t fr rfl ?_
            refine wp_region_lit ?_  -- region 31
            refine fx_val (v := .slice C2 came2.length cc2) fr rfl rfl (by decide) (x_move rfl (fr.ev rfl)) ?_
            clear fr a; intro a fr
            refine fx_val (v := .agg (msgE.arr (delM (pickOf lp i) l2))) fr rfl rfl (by decide) (x_loadE (E := msgE) ag26 rfl rfl (fr.ev rfl) (B125.rangeE msgE)) ?_
            clear fr a; intro a fr
            refine fx_build1 (E := msgE) (p := (delM (pickOf lp i) l2)) el38 (by decide) fr rfl rfl (by decide) rfl (fr.ev rfl) ?_
            clear fr a
            intro A170 w171 hN172 O173 hA174 a fr
            have ap2_P_A170 : Apart2 P A170 := (new_apart2 hA174 fun _ hg => hV.lt hg).symm
            have ap2_K_A170 : Apart2 K A170 := (new_apart2 hA174 fun _ hg => hK.lt hg).symm
            have ap2_S_A170 : Apart2 S A170 := (new_apart2 hA174 fun _ hg => Os.lt hg).symm
            have ap2_C2_A170 : Apart2 C2 A170 := (new_apart2 hA174 fun _ hg => Oc2.lt hg).symm
            have ap2_A110_A170 : Apart2 A110 A170 := (new_apart2 hA174 fun _ hg => O112.lt hg).symm
            have ap_A170_b4 : Apart A170 b4 := new_apart hA174 H118.ltb
            have ap2_A116_A170 : Apart2 A116 A170 := (new_apart2 hA174 fun _ hg => H118.lt hg).symm
            have ap_A170_b122 : Apart A170 b122 := new_apart hA174 B125.lt
            have ap2_A129_A170 : Apart2 A129 A170 := (new_apart2 hA174 fun _ hg => O131.lt hg).symm
            have gA_A170 := gA_new hF hA174
            replace hV := hV.new hN172
            replace hK := hK.new hN172
            replace Os := Os.new hN172
            replace Oc2 := Oc2.new hN172
            replace O112 := O112.new hN172
            replace H118 := H118.new hN172
            replace B125 := B125.new hN172
            replace O131 := O131.new hN172
            replace hF := hF.trNew hN172
            refine fx_append (E := msgE) (l := came2) (l' := [(delM (pickOf lp i) l2)]) el38 fr rfl rfl (by decide) rfl (fr.ev rfl) (fr.ev rfl) (by first | rfl | (simp; done) | (simp; omega)) (by first | rfl | (simp; done) | (simp; omega)) Oc2 O173.view (by first | omega | (simp; omega)) (by unfold maxLen; first | omega | (simp; omega)) ?_
            clear fr a
            intro A175 cap176 w177 O178 hO179 mv180 a fr
            have ap2_A175_P : Apart2 A175 P := moved_apart2 mv180 ap2_P_C2.symm fun _ hg => hV.lt hg
            have ap2_A175_K : Apart2 A175 K := moved_apart2 mv180 ap2_K_C2.symm fun _ hg => hK.lt hg
            have ap2_A175_S : Apart2 A175 S := moved_apart2 mv180 ap2_S_C2.symm fun _ hg => Os.lt hg
            have ap2_A175_A110 : Apart2 A175 A110 := moved_apart2 mv180 ap2_C2_A110 fun _ hg => O112.lt hg
            have ap_A175_b4 : Apart A175 b4 := moved_apart mv180 ap_C2_b4 H118.ltb
            have ap2_A175_A116 : Apart2 A175 A116 := moved_apart2 mv180 ap2_A116_C2.symm fun _ hg => H118.lt hg
            have ap_A175_b122 : Apart A175 b122 := moved_apart mv180 ap_C2_b122 B125.lt
            have ap2_A175_A129 : Apart2 A175 A129 := moved_apart2 mv180 ap2_C2_A129 fun _ hg => O131.lt hg
            have ap2_A175_A170 : Apart2 A175 A170 := moved_apart2 mv180 ap2_C2_A170 fun _ hg => O173.lt hg
            have gA_A175 := gA_moved hF mv180 gA_C2
            replace hV := hV.only hO179 (fun g h1 h2 => ap2_P_C2 g h1 h2)
            replace hK := hK.only hO179 (fun g h1 h2 => ap2_K_C2 g h1 h2)
            replace Os := Os.only hO179 (fun g h1 h2 => ap2_S_C2 g h1 h2)
            replace O112 := O112.only hO179 (fun g h1 h2 => ap2_C2_A110.symm g h1 h2)
            replace H118 := H118.only hO179 ap_C2_b4 (fun g h1 h2 => ap2_A116_C2 g h1 h2)
            replace B125 := B125.only hO179 ap_C2_b122
            replace O131 := O131.only hO179 (fun g h1 h2 => ap2_C2_A129.symm g h1 h2)
            replace O173 := O173.only hO179 (fun g h1 h2 => ap2_C2_A170.symm g h1 h2)
            replace hF := hF.locA hO179 gA_C2
            clear Oc2
            refine fx_val (v := .slice A175 ((came2 ++ ([(delM (pickOf lp i) l2)])).length) cap176) fr rfl rfl (by decide) (x_assign rfl (fr.ev rfl)) ?_
            clear fr a; intro a fr
            refine wpList_nil ?_
            refine fx_blk ?_
            refine fx_next ?_
            refine wp_region_lit ?_  -- region 16
            refine fx_val (v := .int .i64 ((i : Nat) : Int)) fr rfl rfl (by decide) (x_move rfl (fr.ev rfl)) ?_
            clear fr a; intro a fr
            refine fx_val (v := .int .i64 ((i + 1 : Nat) : Int)) fr rfl rfl (by decide) (x_add rfl (fr.ev rfl) rfl (i64w (r := ((i + 1 : Nat) : Int)) (by omega) (by omega))) ?_
            clear fr a; intro a fr
            refine fx_val (v := .int .i64 ((i + 1 : Nat) : Int)) fr rfl rfl (by decide) (x_assign rfl (fr.ev rfl)) ?_
            clear fr a; intro a fr
            refine wpList_nil ?_
            refine fx_next ?_
            exact ⟨_, by omega, A116, cap117, (delL (pickOf lp i) l2), A175, cap176, (came2 ++ ([(delM (pickOf lp i) l2)])), (i + 1), rfl, fr.sub ⟨rfl, rfl, rfl, rfl, rfl, rfl, rfl, rfl, trivial⟩, hF, hV, hK, H118, Os, O178, hJ.del_ok hl0, by omega, ap2_A116_P.symm, ap2_A175_P.symm, ap2_A116_K.symm, ap2_A175_K.symm, ap2_A116_S, ap_A175_b4, ap2_A175_A116.symm, ap2_A175_S.symm, gA_A116, gA_A175⟩
      · skip
        have hc66 := of_decide_eq_false hc66
        refine wp_exit ?_
        refine fx_xt ?_
        refine fx_xt ?_
        refine fx_xx ?_
        refine fx_next ?_
        refine wp_seq ?_
        refine wp_seq ?_
        obtain ⟨hz, hpm⟩ := hJ.done (by omega)
        have hz1 : ¬ (((came2.length : Nat) : Int) ≠ ((sent.length : Nat) : Int)) := by rw [hpm.length_eq]; simp
        have hz2 : ¬ (((l2.length : Nat) : Int) ≠ 0) := by rw [hz]; simp
        refine wp_region_lit ?_  -- region 32
        refine fx_val (v := .slice C2 came2.length cc2) fr rfl rfl (by decide) (x_move rfl (fr.ev rfl)) ?_
        clear fr a; intro a fr
        refine fx_val (v := .int .i64 ((came2.length : Nat) : Int)) fr rfl rfl (by decide) (x_len Try.underlying38 rfl (fr.ev rfl)) ?_
        clear fr a; intro a fr
        refine fx_val (v := .slice S sent.length sc) fr rfl rfl (by decide) (x_move rfl (fr.ev rfl)) ?_
        clear fr a; intro a fr
        refine fx_val (v := .int .i64 ((sent.length : Nat) : Int)) fr rfl rfl (by decide) (x_len Try.underlying38 rfl (fr.ev rfl)) ?_
        clear fr a; intro a fr
        refine fx_val (v := .bool false) fr rfl rfl (by decide) (x_neq rfl (fr.ev rfl) (fr.ev rfl) (decide_eq_false hz1)) ?_
        clear fr a; intro a fr
        refine fx_val (v := .bool false) fr rfl rfl (by decide) (x_move rfl (fr.ev rfl)) ?_
        clear fr a; intro a fr
        refine fx_val (v := .pointer (some ⟨b4, 0, none⟩)) fr (fr.want rfl rfl rfl) rfl (by decide) (x_move rfl (fr.ev rfl)) ?_
        clear fr a; intro a fr
        refine fx_call fr (fr.want rfl rfl rfl) rfl (by decide) (x_call (vs := [.pointer (some ⟨b4, 0, none⟩)]) rfl rfl ⟨(fr.ev rfl), trivial⟩ Try.func19 nm19 rfl) (len_c H2 (by omega)) ?_
        clear fr a
        rintro v _ ⟨rfl, rfl⟩ a fr
        refine fx_val (v := .bool false) fr (fr.want rfl rfl rfl) rfl (by decide) (x_neq rfl (fr.ev rfl) rfl (decide_eq_false hz2)) ?_
        clear fr a; intro a fr
        refine fx_val (v := .bool false) fr rfl rfl (by decide) (x_pick_f rfl (fr.ev rfl) (fr.ev rfl)) ?_
        clear fr a; intro a fr
        refine wpList_nil ?_
        refine fx_next ?_
        refine fx_cond_f fr rfl ?_
        refine wp_skip ?_
        refine fx_next ?_
        refine wp_seq ?_
        refine wp_seq ?_
        refine wp_region_lit ?_  -- region 34
        refine fx_val (v := .int .i64 0) fr rfl rfl (by decide) (x_assign rfl rfl) ?_
        clear fr a; intro a fr
        refine wpList_nil ?_
        refine fx_next ?_
        refine wp_block ?_
        refine fx_loop (fun nM a wL => ∃ q : Nat, nM = sent.length - q ∧ Fr 190 [(0, .slice P la.length cp), (1, .slice K lp.length ck), (5, .pointer (some ⟨b4, 0, none⟩)), (6, .int .i64 0), (7, .slice S sent.length sc), (8, .slice C2 came2.length cc2), (12, .int .i64 ((i : Nat) : Int)), (4, .bool false), (72, .int .i64 ((i : Nat) : Int)), (73, .slice P la.length cp), (74, .int .i64 ((la.length : Nat) : Int)), (75, .bool (decide (((i : Nat) : Int) ≤ ((la.length : Nat) : Int)))), (155, .slice C2 came2.length cc2), (156, .int .i64 ((came2.length : Nat) : Int)), (157, .slice S sent.length sc), (158, .int .i64 ((sent.length : Nat) : Int)), (159, .bool false), (160, .bool false), (161, .pointer (some ⟨b4, 0, none⟩)), (162, .int .i64 ((l2.length : Nat) : Int)), (163, .bool false), (164, .bool false), (19, .int .i64 ((q : Nat) : Int))] a ∧ Only (fun _ => False) w wL ∧ View actE wL P cp la ∧ View intE wL K ck lp ∧ NetAt wL b4 A2 cap2 1024 l2 ∧ Own msgE wL S sc sent ∧ Own msgE wL C2 cc2 came2 ∧ q ≤ sent.length) (n0 := _) ⟨0, rfl, fr.sub ⟨rfl, rfl, rfl, rfl, rfl, rfl, rfl, rfl, rfl, rfl, rfl, rfl, rfl, rfl, rfl, rfl, rfl, rfl, rfl, rfl, rfl, rfl, rfl, trivial⟩, hF, hV, hK, H2, Os, Oc2, by omega⟩ ?_
        rintro n184 a w183 ⟨q, rfl, fr, hF, hV, hK, H2, Os, Oc2, hp185⟩
        refine wp_seq ?_
        refine wp_seq ?_
        refine wp_region_lit ?_  -- region 35
        refine fx_val (v := .int .i64 ((q : Nat) : Int)) fr rfl rfl (by decide) (x_move rfl (fr.ev rfl)) ?_
        clear fr a; intro a fr
        refine fx_val (v := .slice S sent.length sc) fr rfl rfl (by decide) (x_move rfl (fr.ev rfl)) ?_
        clear fr a; intro a fr
        refine fx_val (v := .int .i64 ((sent.length : Nat) : Int)) fr rfl rfl (by decide) (x_len Try.underlying38 rfl (fr.ev rfl)) ?_
        clear fr a; intro a fr
        refine fx_val (v := .bool (decide (((q : Nat) : Int) < ((sent.length : Nat) : Int)))) fr rfl rfl (by decide) (x_lss rfl (fr.ev rfl) (fr.ev rfl) rfl) ?_
        clear fr a; intro a fr
        refine wpList_nil ?_
        refine fx_next ?_
        refine fx_cond fr rfl (fun hc186 => ?_) (fun hc186 => ?_)
        · skip
          have hc186 := of_decide_eq_true hc186
          refine wp_skip ?_
          refine fx_next ?_
          refine wp_seq ?_
          refine wp_block ?_
          refine wp_seq ?_
          have hcn : ¬ (((sent.count (sent.getD q msg0) : Nat) : Int) ≠ ((came2.count (sent.getD q msg0) : Nat) : Int)) := by rw [hpm.count_eq]; simp
          refine fx_held (n := 13) (fun w => View actE w P cp la ∧ View intE w K ck lp ∧ NetAt w b4 A2 cap2 1024 l2 ∧ Own msgE w S sc sent ∧ Own msgE w C2 cc2 came2 ∧ True) (by kernel_rfl) rfl ?_  -- region 37
          intro w187 hN188
          replace hV := hV.new hN188
          replace hK := hK.new hN188
          replace H2 := H2.new hN188
          replace Os := Os.new hN188
          replace Oc2 := Oc2.new hN188
          replace hF := hF.trNew hN188
          refine fx_take (i := 0) (v := .slice S sent.length sc) fr rfl (by kernel_rfl) rfl rfl (by decide) (fun _ _ _ h => h) (fun _ ⟨hV, hK, H2, Os, Oc2, _⟩ => x_move rfl (fr.ev rfl)) ⟨hV, hK, H2, Os, Oc2, trivial⟩ ?_
          clear fr a; intro a fr
          refine fx_take (i := 1) (v := .slice S sent.length sc) fr rfl (by kernel_rfl) rfl rfl (by decide) (fun _ _ _ h => h) (fun _ ⟨hV, hK, H2, Os, Oc2, _⟩ => x_move rfl (fr.ev rfl)) ⟨hV, hK, H2, Os, Oc2, trivial⟩ ?_
          clear fr a; intro a fr
          refine fx_take (i := 2) (v := .int .i64 ((q : Nat) : Int)) fr rfl (by kernel_rfl) rfl rfl (by decide) (fun _ _ _ h => h) (fun _ ⟨hV, hK, H2, Os, Oc2, _⟩ => x_move rfl (fr.ev rfl)) ⟨hV, hK, H2, Os, Oc2, trivial⟩ ?_
          clear fr a; intro a fr
          obtain ⟨g189, o190, hA191⟩ := (Os.view).some_ (by omega)
          refine fx_take (i := 3) (v := .pointer (some ⟨g189, o190 + q * 20, none⟩)) fr rfl (by kernel_rfl) rfl rfl (by decide) (fun _ _ _ h => h) (fun _ ⟨hV, hK, H2, Os, Oc2, _⟩ => x_indexV Try.underlying38 sz26 rfl (fr.ev rfl) hA191 (fr.ev rfl) (by omega) rfl) ⟨hV, hK, H2, Os, Oc2, trivial⟩ ?_
          clear fr a; intro a fr
          refine fx_take (i := 4) (v := .agg (msgE.arr (sent.getD q msg0))) fr rfl (by kernel_rfl) rfl rfl (by decide) (fun _ _ _ h => h) (fun _ ⟨hV, hK, H2, Os, Oc2, _⟩ => x_loadE (E := msgE) ag26 rfl rfl (fr.ev rfl) ((Os.view).elem hA191 q msg0 (by omega))) ⟨hV, hK, H2, Os, Oc2, trivial⟩ ?_
          clear fr a; intro a fr
          refine fx_take (i := 6) (v := .slice C2 came2.length cc2) fr rfl (by kernel_rfl) rfl rfl (by decide) (fun _ _ _ h => h) (fun _ ⟨hV, hK, H2, Os, Oc2, _⟩ => x_move rfl (fr.ev rfl)) ⟨hV, hK, H2, Os, Oc2, trivial⟩ ?_
          clear fr a; intro a fr
          refine fx_take (i := 7) (v := .slice S sent.length sc) fr rfl (by kernel_rfl) rfl rfl (by decide) (fun _ _ _ h => h) (fun _ ⟨hV, hK, H2, Os, Oc2, _⟩ => x_move rfl (fr.ev rfl)) ⟨hV, hK, H2, Os, Oc2, trivial⟩ ?_
          clear fr a; intro a fr
          refine fx_take (i := 8) (v := .int .i64 ((q : Nat) : Int)) fr rfl (by kernel_rfl) rfl rfl (by decide) (fun _ _ _ h => h) (fun _ ⟨hV, hK, H2, Os, Oc2, _⟩ => x_move rfl (fr.ev rfl)) ⟨hV, hK, H2, Os, Oc2, trivial⟩ ?_
          clear fr a; intro a fr
          refine fx_take (i := 9) (v := .pointer (some ⟨g189, o190 + q * 20, none⟩)) fr rfl (by kernel_rfl) rfl rfl (by decide) (fun _ _ _ h => h) (fun _ ⟨hV, hK, H2, Os, Oc2, _⟩ => x_indexV Try.underlying38 sz26 rfl (fr.ev rfl) hA191 (fr.ev rfl) (by omega) rfl) ⟨hV, hK, H2, Os, Oc2, trivial⟩ ?_
          clear fr a; intro a fr
          refine fx_take (i := 10) (v := .agg (msgE.arr (sent.getD q msg0))) fr rfl (by kernel_rfl) rfl rfl (by decide) (fun _ _ _ h => h) (fun _ ⟨hV, hK, H2, Os, Oc2, _⟩ => x_loadE (E := msgE) ag26 rfl rfl (fr.ev rfl) ((Os.view).elem hA191 q msg0 (by omega))) ⟨hV, hK, H2, Os, Oc2, trivial⟩ ?_
          clear fr a; intro a fr
          refine fx_one (i := 5) (by kernel_rfl) (fx_op rfl ?_)
          refine fx_call fr rfl rfl (by decide) (x_call (vs := [.slice S sent.length sc, .agg (msgE.arr (sent.getD q msg0))]) rfl rfl ⟨(fr.ev rfl), (fr.ev rfl), trivial⟩ Try.func20 nm20 rfl) (counted_c (sent.getD q msg0) (Os.view)) ?_
          clear fr a
          rintro v w192 ⟨rfl, hN193⟩ a fr
          replace hV := hV.new hN193
          replace hK := hK.new hN193
          replace H2 := H2.new hN193
          replace Os := Os.new hN193
          replace Oc2 := Oc2.new hN193
          replace hF := hF.trNew hN193
          refine wpList_nil ?_
          refine ⟨⟨hV, hK, H2, Os, Oc2, trivial⟩, ?_⟩
          refine fx_one (i := 11) (by kernel_rfl) (fx_op rfl ?_)
          refine fx_call fr rfl rfl (by decide) (x_call (vs := [.slice C2 came2.length cc2, .agg (msgE.arr (sent.getD q msg0))]) rfl rfl ⟨(fr.ev rfl), (fr.ev rfl), trivial⟩ Try.func20 nm20 rfl) (counted_c (sent.getD q msg0) (Oc2.view)) ?_
          clear fr a
          rintro v w194 ⟨rfl, hN195⟩ a fr
          replace hV := hV.new hN195
          replace hK := hK.new hN195
          replace H2 := H2.new hN195
          replace Os := Os.new hN195
          replace Oc2 := Oc2.new hN195
          replace hF := hF.trNew hN195
          refine wpList_nil ?_
          refine ⟨⟨hV, hK, H2, Os, Oc2, trivial⟩, ?_⟩
          refine fx_take (i := 12) (v := .bool false) fr rfl (by kernel_rfl) rfl rfl (by decide) (fun _ _ _ h => h) (fun _ ⟨hV, hK, H2, Os, Oc2, _⟩ => x_neq rfl (fr.ev rfl) (fr.ev rfl) (decide_eq_false hcn)) ⟨hV, hK, H2, Os, Oc2, trivial⟩ ?_
          clear fr a; intro a fr
          refine fx_hdone (by kernel_rfl) ?_
          refine fx_next ?_
          refine fx_cond_f fr rfl ?_
          refine wp_skip ?_
          refine fx_blk ?_
          refine fx_next ?_
          refine wp_region_lit ?_  -- region 36
          refine fx_val (v := .int .i64 ((q : Nat) : Int)) fr rfl rfl (by decide) (x_move rfl (fr.ev rfl)) ?_
          clear fr a; intro a fr
          refine fx_val (v := .int .i64 ((q + 1 : Nat) : Int)) fr rfl rfl (by decide) (x_add rfl (fr.ev rfl) rfl (i64w (r := ((q + 1 : Nat) : Int)) (by omega) (by omega))) ?_
          clear fr a; intro a fr
          refine fx_val (v := .int .i64 ((q + 1 : Nat) : Int)) fr rfl rfl (by decide) (x_assign rfl (fr.ev rfl)) ?_
          clear fr a; intro a fr
          refine wpList_nil ?_
          refine fx_next ?_
          exact ⟨_, by omega, (q + 1), rfl, fr.sub ⟨rfl, rfl, rfl, rfl, rfl, rfl, rfl, rfl, rfl, rfl, rfl, rfl, rfl, rfl, rfl, rfl, rfl, rfl, rfl, rfl, rfl, rfl, rfl, trivial⟩, hF, hV, hK, H2, Os, Oc2, by omega⟩
        · skip
          have hc186 := of_decide_eq_false hc186
          refine wp_exit ?_
          refine fx_xt ?_
          refine fx_xt ?_
          refine fx_xx ?_
          refine fx_next ?_
          refine wp_seq ?_
          refine wp_region_lit ?_  -- region 39
          refine fx_val (v := .int .i64 0) fr rfl rfl (by decide) (x_move rfl (fr.ev rfl)) ?_
          clear fr a; intro a fr
          refine fx_call fr rfl rfl (by decide) (x_call (vs := [.int .i64 0]) rfl rfl ⟨(fr.ev rfl), trivial⟩ Try.func10 nm10 rfl) (num_c 0 _) ?_
          clear fr a
          rintro v _ ⟨rfl, rfl⟩ a fr
          refine fx_val (v := .bool true) fr rfl rfl (by decide) (x_eql rfl (fr.ev rfl) rfl rfl) ?_
          clear fr a; intro a fr
          refine fx_val (v := .bool true) fr rfl rfl (by decide) (x_move rfl (fr.ev rfl)) ?_
          clear fr a; intro a fr
          refine fx_call fr (fr.want rfl rfl rfl) rfl (by decide) (x_call (vs := []) rfl rfl trivial Try.func13 nm13 rfl) (works_c _) ?_
          clear fr a
          rintro v w198 ⟨rfl, hN199⟩ a fr
          replace hV := hV.new hN199
          replace hK := hK.new hN199
          replace H2 := H2.new hN199
          replace Os := Os.new hN199
          replace Oc2 := Oc2.new hN199
          replace hF := hF.trNew hN199
          refine fx_val (v := .bool true) fr rfl rfl (by decide) (x_pick_t rfl (fr.ev rfl) (fr.ev rfl)) ?_
          clear fr a; intro a fr
          refine fx_val (v := .bool true) fr rfl rfl (by decide) (x_assign rfl (fr.ev rfl)) ?_
          clear fr a; intro a fr
          refine wpList_nil ?_
          refine fx_next ?_
          refine wp_ret ?_
          refine fx_ret fr [.tmp 4] [.bool true] rfl ⟨rfl, trivial⟩ rfl ?_
          exact ⟨_, rfl, rfl, hF⟩
end Go.Proofs.Ytdpkeabmfhnfiaa
