/-
  The document's net: Send, Deliver, To. Printed by gen_i.py.
-/
import Derived.Test.YtdpkeabmfhnfiaaNetH
namespace Go.Proofs.Ytdpkeabmfhnfiaa
open Go.RowKit

set_option maxRecDepth 100000 in
set_option maxHeartbeats 4000000 in
theorem rsend_c (m : Msg) {w : World} {A : Option Addr} {cap : Nat} {most : Int} {l : List Msg} (hV : View msgE w A cap l) (hl : l.length ≤ 100000) : Calls Try.prog 23 #[.agg #[.int .i64 most, .slice A l.length cap], .agg (msgE.arr m)] w (Ret fun v w' => ∃ A' cap', v = .tuple #[.agg #[.int .i64 most, .slice A' (sendL most l m).length cap'], .int .i64 (sendE most l m)] ∧ View msgE w' A' cap' (sendL most l m) ∧ (∀ g, inA A' g → inA A g ∨ w.heap.size ≤ g) ∧ New w w') := by
  have hVl := hV.len
  unfold maxLen at hVl
  have hF := Only.refl (fun _ => False) w
  refine fx_enter Try.func23 rfl (N := (26, [])) (T := [(0, .agg (#[.int .i64 most, .slice A l.length cap])), (1, .agg (msgE.arr m))]) rfl (show 2 ≤ 26 by decide) ⟨rfl, rfl, trivial⟩ fun a fr => ?_
  refine wp_seq ?_
  refine wp_region_lit ?_  -- region 0
  refine fx_new fr rfl rfl (by first | decide | simp) (x_box (cs := #[.int .i64 most, .slice A l.length cap]) rfl (fr.ev rfl) rfl) ?_
  clear fr a
  intro b1 w2 hN3 B4 hb5 a fr
  have ap_A_b1 : Apart A b1 := hV.apart hb5
  have g_b1 := Nat.le_trans hF.size hb5
  replace hV := hV.new hN3
  replace hF := hF.trNew hN3
  refine fx_new fr rfl rfl (by first | decide | simp) (x_box (cs := msgE.arr m) rfl (fr.ev rfl) rfl) ?_
  clear fr a
  intro b6 w7 hN8 B9 hb10 a fr
  have ap_A_b6 : Apart A b6 := hV.apart hb10
  have ne_b1_b6 : ¬ b1 = b6 := Nat.ne_of_lt (Nat.lt_of_lt_of_le B4.lt hb10)
  have g_b6 := Nat.le_trans hF.size hb10
  replace hV := hV.new hN8
  replace B4 := B4.new hN8
  replace hF := hF.trNew hN8
  refine fx_new fr rfl rfl (by first | decide | simp) (x_alloc (z := .agg (#[.int .i64 0, .slice none 0 0])) (cs := #[.int .i64 0, .slice none 0 0]) rfl (by kernel_rfl) rfl) ?_
  clear fr a
  intro b11 w12 hN13 B14 hb15 a fr
  have ap_A_b11 : Apart A b11 := hV.apart hb15
  have ne_b1_b11 : ¬ b1 = b11 := Nat.ne_of_lt (Nat.lt_of_lt_of_le B4.lt hb15)
  have ne_b6_b11 : ¬ b6 = b11 := Nat.ne_of_lt (Nat.lt_of_lt_of_le B9.lt hb15)
  have g_b11 := Nat.le_trans hF.size hb15
  replace hV := hV.new hN13
  replace B4 := B4.new hN13
  replace B9 := B9.new hN13
  replace hF := hF.trNew hN13
  refine fx_val (v := .int .i64 0) fr rfl rfl (by first | decide | simp) (x_assign rfl rfl) ?_
  clear fr a; intro a fr
  refine wpList_nil ?_
  refine fx_next ?_
  refine wp_seq ?_
  refine wp_seq ?_
  refine wp_region_lit ?_  -- region 1
  refine fx_val (v := .agg (msgE.arr m)) fr rfl rfl (by first | decide | simp) (x_loadE (E := msgE) ag26 rfl rfl (fr.ev rfl) (B9.rangeE msgE)) ?_
  clear fr a; intro a fr
  refine fx_call fr rfl rfl (by first | decide | simp) (x_call (vs := [.agg (msgE.arr m)]) rfl rfl ⟨(fr.ev rfl), trivial⟩ Try.func12 nm12 rfl) (refchk_c m _) ?_
  clear fr a
  rintro v w16 ⟨rfl, hN17⟩ a fr
  replace hV := hV.new hN17
  replace B4 := B4.new hN17
  replace B9 := B9.new hN17
  replace B14 := B14.new hN17
  replace hF := hF.trNew hN17
  refine fx_val (v := .bool (decide (chk m ≠ 0))) fr rfl rfl (by first | decide | simp) (x_neq rfl (fr.ev rfl) rfl rfl) ?_
  clear fr a; intro a fr
  refine wpList_nil ?_
  refine fx_next ?_
  refine fx_cond fr rfl (fun hc18 => ?_) (fun hc18 => ?_)
  · skip
    have hc18 := of_decide_eq_true hc18
    refine wp_seq ?_
    refine wp_region_lit ?_  -- region 2
    refine fx_val (v := .agg (#[.int .i64 most, .slice A l.length cap])) fr rfl rfl (by first | decide | simp) (x_loadS ag49 rfl (fr.ev rfl) rfl B4.range) ?_
    clear fr a; intro a fr
    refine fx_storeS sz49 rfl rfl rfl (fr.ev rfl) (fr.ev rfl) (by simp [Value.oneCell']) B14 rfl rfl fun w19 hO20 hBq => ?_
    replace hV := hV.only hO20 (Apart.ne1 ap_A_b11)
    replace B4 := B4.only hO20 (by show ¬ b1 = b11; omega)
    replace B9 := B9.only hO20 (by show ¬ b6 = b11; omega)
    replace hF := hF.loc hO20 (.inr g_b11)
    replace B14 := hBq
    clear hBq
    refine fx_val (v := .int .i64 2) fr rfl rfl (by first | decide | simp) (x_assign rfl rfl) ?_
    clear fr a; intro a fr
    refine wpList_nil ?_
    refine fx_next ?_
    refine wp_ret ?_
    refine fx_rt ?_
    refine fx_ret fr [.cell 4 49, .tmp 5] [.agg (#[.int .i64 most, .slice A l.length cap]), .int .i64 2] rfl ⟨⟨_, rfl, x_loadV ag49 rfl B14.range⟩, rfl, trivial⟩ rfl ?_
    have e1 : sendL most l m = l := by simp [sendL, chk_bad hc18]; try omega
    have e2 : sendE most l m = 2 := by simp [sendE, chk_bad hc18]; try omega
    rw [e1, e2]
    exact ⟨_, rfl, A, cap, rfl, hV, fun g hg => .inl hg, hF⟩
  · skip
    have hc18 := of_decide_eq_false hc18
    refine wp_skip ?_
    refine fx_next ?_
    refine wp_seq ?_
    refine wp_seq ?_
    refine wp_region_lit ?_  -- region 3
    refine fx_val (v := .pointer (some ⟨b1, 1, none⟩)) fr rfl rfl (by first | decide | simp) (x_fieldAddr fo49_1 rfl (fr.ev rfl) rfl) ?_
    clear fr a; intro a fr
    refine fx_val (v := .slice A l.length cap) fr rfl rfl (by first | decide | simp) (x_load1 pl38 rfl (fr.ev rfl) (B4.cell 1 rfl)) ?_
    clear fr a; intro a fr
    refine fx_val (v := .int .i64 ((l.length : Nat) : Int)) fr rfl rfl (by first | decide | simp) (x_len Try.underlying38 rfl (fr.ev rfl)) ?_
    clear fr a; intro a fr
    refine fx_val (v := .pointer (some ⟨b1, 0, none⟩)) fr rfl rfl (by first | decide | simp) (x_fieldAddr fo49_0 rfl (fr.ev rfl) rfl) ?_
    clear fr a; intro a fr
    refine fx_val (v := .int .i64 most) fr rfl rfl (by first | decide | simp) (x_load1 pl3 rfl (fr.ev rfl) (B4.cell 0 rfl)) ?_
    clear fr a; intro a fr
    refine fx_val (v := .bool (decide (most ≤ ((l.length : Nat) : Int)))) fr rfl rfl (by first | decide | simp) (x_geq rfl (fr.ev rfl) (fr.ev rfl) rfl) ?_
    clear fr a; intro a fr
    refine wpList_nil ?_
    refine fx_next ?_
    refine fx_cond fr rfl (fun hc21 => ?_) (fun hc21 => ?_)
    · skip
      have hc21 := of_decide_eq_true hc21
      refine wp_seq ?_
      refine wp_region_lit ?_  -- region 4
      refine fx_val (v := .agg (#[.int .i64 most, .slice A l.length cap])) fr rfl rfl (by first | decide | simp) (x_loadS ag49 rfl (fr.ev rfl) rfl B4.range) ?_
      clear fr a; intro a fr
      refine fx_storeS sz49 rfl rfl rfl (fr.ev rfl) (fr.ev rfl) (by simp [Value.oneCell']) B14 rfl rfl fun w22 hO23 hBq => ?_
      replace hV := hV.only hO23 (Apart.ne1 ap_A_b11)
      replace B4 := B4.only hO23 (by show ¬ b1 = b11; omega)
      replace B9 := B9.only hO23 (by show ¬ b6 = b11; omega)
      replace hF := hF.loc hO23 (.inr g_b11)
      replace B14 := hBq
      clear hBq
      refine fx_val (v := .int .i64 210) fr rfl rfl (by first | decide | simp) (x_assign rfl rfl) ?_
      clear fr a; intro a fr
      refine wpList_nil ?_
      refine fx_next ?_
      refine wp_ret ?_
      refine fx_rt ?_
      refine fx_ret fr [.cell 4 49, .tmp 5] [.agg (#[.int .i64 most, .slice A l.length cap]), .int .i64 210] rfl ⟨⟨_, rfl, x_loadV ag49 rfl B14.range⟩, rfl, trivial⟩ rfl ?_
      have e1 : sendL most l m = l := by simp [sendL, chk_good hc18]; try omega
      have e2 : sendE most l m = 210 := by simp [sendE, chk_good hc18]; try omega
      rw [e1, e2]
      exact ⟨_, rfl, A, cap, rfl, hV, fun g hg => .inl hg, hF⟩
    · skip
      have hc21 := of_decide_eq_false hc21
      refine wp_skip ?_
      refine fx_next ?_
      refine wp_seq ?_
      refine fx_heldT (n := 7) (k := 7) (fun w => View msgE w A cap l ∧ Blk w b1 49 (#[.int .i64 most, .slice A l.length cap]) ∧ Blk w b6 26 (msgE.arr m) ∧ Blk w b11 49 (#[.int .i64 0, .slice none 0 0]) ∧ True) (by kernel_rfl) (by kernel_rfl) rfl ?_  -- region 5
      intro w24 hN25
      replace hV := hV.new hN25
      replace B4 := B4.new hN25
      replace B9 := B9.new hN25
      replace B14 := B14.new hN25
      replace hF := hF.trNew hN25
      refine fx_take (i := 1) (v := .pointer (some ⟨b1, 1, none⟩)) fr rfl (by kernel_rfl) rfl rfl (by first | decide | simp) (fun _ _ _ h => h) (fun _ ⟨hV, B4, B9, B14, _⟩ => x_fieldAddr fo49_1 rfl (fr.ev rfl) rfl) ⟨hV, B4, B9, B14, trivial⟩ ?_
      clear fr a; intro a fr
      refine fx_take (i := 2) (v := .slice A l.length cap) fr rfl (by kernel_rfl) rfl rfl (by first | decide | simp) (fun _ _ _ h => h) (fun _ ⟨hV, B4, B9, B14, _⟩ => x_load1 pl38 rfl (fr.ev rfl) (B4.cell 1 rfl)) ⟨hV, B4, B9, B14, trivial⟩ ?_
      clear fr a; intro a fr
      refine fx_take (i := 4) (v := .agg (msgE.arr m)) fr rfl (by kernel_rfl) rfl rfl (by first | decide | simp) (fun _ _ _ h => h) (fun _ ⟨hV, B4, B9, B14, _⟩ => x_loadE (E := msgE) ag26 rfl rfl (fr.ev rfl) (B9.rangeE msgE)) ⟨hV, B4, B9, B14, trivial⟩ ?_
      clear fr a; intro a fr
      refine fx_two (i := 0) (j := 5) (by kernel_rfl) (fx_op rfl ?_) (fx_op rfl ?_)
      · skip
        refine fx_build0 (E := msgE) el38 fr rfl rfl (by decide) rfl ?_
        clear fr a
        intro A26 w27 hN28 O29 hA30 a fr
        have ap2_A_A26 : Apart2 A A26 := (new_apart2 hA30 fun _ hg => hV.lt hg).symm
        have ap_A26_b1 : Apart A26 b1 := new_apart hA30 B4.lt
        have ap_A26_b6 : Apart A26 b6 := new_apart hA30 B9.lt
        have ap_A26_b11 : Apart A26 b11 := new_apart hA30 B14.lt
        have gA_A26 := gA_new hF hA30
        replace hV := hV.new hN28
        replace B4 := B4.new hN28
        replace B9 := B9.new hN28
        replace B14 := B14.new hN28
        replace hF := hF.trNew hN28
        refine wpList_nil ?_
        refine ⟨⟨hV, B4, B9, B14, trivial⟩, ?_⟩
        refine fx_two (i := 3) (j := 5) (by kernel_rfl) (fx_op rfl ?_) (fx_op rfl ?_)
        · skip
          refine fx_append (E := msgE) (l := []) (l' := l) el38 fr rfl rfl (by decide) rfl (fr.ev rfl) (fr.ev rfl) (by first | rfl | (simp; done) | (simp; omega)) (by first | rfl | (simp; done) | (simp; omega)) O29 hV (by first | omega | (simp; omega)) (by unfold maxLen; first | omega | (simp; omega)) ?_
          clear fr a
          intro A31 cap32 w33 O34 hO35 mv36 a fr
          have ap2_A31_A : Apart2 A31 A := moved_apart2 mv36 ap2_A_A26.symm fun _ hg => hV.lt hg
          have ap_A31_b1 : Apart A31 b1 := moved_apart mv36 ap_A26_b1 B4.lt
          have ap_A31_b6 : Apart A31 b6 := moved_apart mv36 ap_A26_b6 B9.lt
          have ap_A31_b11 : Apart A31 b11 := moved_apart mv36 ap_A26_b11 B14.lt
          have gA_A31 := gA_moved hF mv36 gA_A26
          replace hV := hV.only hO35 (fun g h1 h2 => ap2_A_A26 g h1 h2)
          replace B4 := B4.only hO35 ap_A26_b1
          replace B9 := B9.only hO35 ap_A26_b6
          replace B14 := B14.only hO35 ap_A26_b11
          replace hF := hF.locA hO35 gA_A26
          clear O29
          refine wpList_nil ?_
          refine ⟨⟨hV, B4, B9, B14, trivial⟩, ?_⟩
          refine fx_one (i := 5) (by kernel_rfl) (fx_op rfl ?_)
          refine fx_build1 (E := msgE) (p := m) el38 (by decide) fr rfl rfl (by decide) rfl (fr.ev rfl) ?_
          clear fr a
          intro A37 w38 hN39 O40 hA41 a fr
          have ap2_A_A37 : Apart2 A A37 := (new_apart2 hA41 fun _ hg => hV.lt hg).symm
          have ap_A37_b1 : Apart A37 b1 := new_apart hA41 B4.lt
          have ap_A37_b6 : Apart A37 b6 := new_apart hA41 B9.lt
          have ap_A37_b11 : Apart A37 b11 := new_apart hA41 B14.lt
          have ap2_A31_A37 : Apart2 A31 A37 := (new_apart2 hA41 fun _ hg => O34.lt hg).symm
          have gA_A37 := gA_new hF hA41
          replace hV := hV.new hN39
          replace B4 := B4.new hN39
          replace B9 := B9.new hN39
          replace B14 := B14.new hN39
          replace O34 := O34.new hN39
          replace hF := hF.trNew hN39
          refine wpList_nil ?_
          refine ⟨⟨hV, B4, B9, B14, trivial⟩, ?_⟩
          refine fx_one (i := 6) (by kernel_rfl) (fx_op rfl ?_)
          refine fx_append (E := msgE) (l := ([]) ++ l) (l' := [m]) el38 fr rfl rfl (by decide) rfl (fr.ev rfl) (fr.ev rfl) (by first | rfl | (simp; done) | (simp; omega)) (by first | rfl | (simp; done) | (simp; omega)) O34 O40.view (by first | omega | (simp; omega)) (by unfold maxLen; first | omega | (simp; omega)) ?_
          clear fr a
          intro A42 cap43 w44 O45 hO46 mv47 a fr
          have ap2_A42_A : Apart2 A42 A := moved_apart2 mv47 ap2_A31_A fun _ hg => hV.lt hg
          have ap_A42_b1 : Apart A42 b1 := moved_apart mv47 ap_A31_b1 B4.lt
          have ap_A42_b6 : Apart A42 b6 := moved_apart mv47 ap_A31_b6 B9.lt
          have ap_A42_b11 : Apart A42 b11 := moved_apart mv47 ap_A31_b11 B14.lt
          have ap2_A42_A37 : Apart2 A42 A37 := moved_apart2 mv47 ap2_A31_A37 fun _ hg => O40.lt hg
          have gA_A42 := gA_moved hF mv47 gA_A31
          replace hV := hV.only hO46 (fun g h1 h2 => ap2_A31_A.symm g h1 h2)
          replace B4 := B4.only hO46 ap_A31_b1
          replace B9 := B9.only hO46 ap_A31_b6
          replace B14 := B14.only hO46 ap_A31_b11
          replace O40 := O40.only hO46 (fun g h1 h2 => ap2_A31_A37.symm g h1 h2)
          replace hF := hF.locA hO46 gA_A31
          clear O34
          refine wpList_nil ?_
          refine ⟨⟨hV, B4, B9, B14, trivial⟩, ?_⟩
          refine fx_hdone (by kernel_rfl) ?_
          refine fx_tail ?_
          refine fx_val (v := .pointer (some ⟨b1, 1, none⟩)) fr rfl rfl (by first | decide | simp) (x_fieldAddr fo49_1 rfl (fr.ev rfl) rfl) ?_
          clear fr a; intro a fr
          refine fx_store1 sz38 rfl rfl rfl (fr.ev rfl) (fr.ev rfl) rfl B4 (show 1 < 2 by decide) (cs' := #[.int .i64 most, .slice A42 (((([]) ++ l) ++ ([m])).length) cap43]) rfl fun w48 hO49 hBq => ?_
          replace hV := hV.only hO49 (Apart.ne1 ap_A_b1)
          replace B9 := B9.only hO49 (by show ¬ b6 = b1; omega)
          replace B14 := B14.only hO49 (by show ¬ b11 = b1; omega)
          replace O40 := O40.only hO49 (Apart.ne1 ap_A37_b1)
          replace O45 := O45.only hO49 (Apart.ne1 ap_A42_b1)
          replace hF := hF.loc hO49 (.inr g_b1)
          replace B4 := hBq
          clear hBq
          refine wpList_nil ?_
          refine fx_next ?_
          refine wp_seq ?_
          refine wp_region_lit ?_  -- region 6
          refine fx_val (v := .agg (#[.int .i64 most, .slice A42 (((([]) ++ l) ++ ([m])).length) cap43])) fr rfl rfl (by first | decide | simp) (x_loadS ag49 rfl (fr.ev rfl) rfl B4.range) ?_
          clear fr a; intro a fr
          refine fx_storeS sz49 rfl rfl rfl (fr.ev rfl) (fr.ev rfl) (by simp [Value.oneCell']) B14 rfl rfl fun w50 hO51 hBq => ?_
          replace hV := hV.only hO51 (Apart.ne1 ap_A_b11)
          replace B9 := B9.only hO51 (by show ¬ b6 = b11; omega)
          replace O40 := O40.only hO51 (Apart.ne1 ap_A37_b11)
          replace O45 := O45.only hO51 (Apart.ne1 ap_A42_b11)
          replace B4 := B4.only hO51 (by show ¬ b1 = b11; omega)
          replace hF := hF.loc hO51 (.inr g_b11)
          replace B14 := hBq
          clear hBq
          refine fx_val (v := .int .i64 0) fr rfl rfl (by first | decide | simp) (x_assign rfl rfl) ?_
          clear fr a; intro a fr
          refine wpList_nil ?_
          refine fx_next ?_
          refine wp_ret ?_
          refine fx_ret fr [.cell 4 49, .tmp 5] [.agg (#[.int .i64 most, .slice A42 (((([]) ++ l) ++ ([m])).length) cap43]), .int .i64 0] rfl ⟨⟨_, rfl, x_loadV ag49 rfl B14.range⟩, rfl, trivial⟩ rfl ?_
          have e1 : sendL most l m = l ++ [m] := by simp [sendL, chk_good hc18]; try omega
          have e2 : sendE most l m = 0 := by simp [sendE, chk_good hc18]; try omega
          rw [e1, e2]
          exact ⟨_, rfl, A42, cap43, rfl, O45.view, fun g hg => .inr ((gA_A42 g hg).resolve_left id), hF⟩
        · skip
          refine fx_build1 (E := msgE) (p := m) el38 (by decide) fr rfl rfl (by decide) rfl (fr.ev rfl) ?_
          clear fr a
          intro A52 w53 hN54 O55 hA56 a fr
          have ap2_A_A52 : Apart2 A A52 := (new_apart2 hA56 fun _ hg => hV.lt hg).symm
          have ap_A52_b1 : Apart A52 b1 := new_apart hA56 B4.lt
          have ap_A52_b6 : Apart A52 b6 := new_apart hA56 B9.lt
          have ap_A52_b11 : Apart A52 b11 := new_apart hA56 B14.lt
          have ap2_A26_A52 : Apart2 A26 A52 := (new_apart2 hA56 fun _ hg => O29.lt hg).symm
          have gA_A52 := gA_new hF hA56
          replace hV := hV.new hN54
          replace B4 := B4.new hN54
          replace B9 := B9.new hN54
          replace B14 := B14.new hN54
          replace O29 := O29.new hN54
          replace hF := hF.trNew hN54
          refine wpList_nil ?_
          refine ⟨⟨hV, B4, B9, B14, trivial⟩, ?_⟩
          refine fx_one (i := 3) (by kernel_rfl) (fx_op rfl ?_)
          refine fx_append (E := msgE) (l := []) (l' := l) el38 fr rfl rfl (by decide) rfl (fr.ev rfl) (fr.ev rfl) (by first | rfl | (simp; done) | (simp; omega)) (by first | rfl | (simp; done) | (simp; omega)) O29 hV (by first | omega | (simp; omega)) (by unfold maxLen; first | omega | (simp; omega)) ?_
          clear fr a
          intro A57 cap58 w59 O60 hO61 mv62 a fr
          have ap2_A57_A : Apart2 A57 A := moved_apart2 mv62 ap2_A_A26.symm fun _ hg => hV.lt hg
          have ap_A57_b1 : Apart A57 b1 := moved_apart mv62 ap_A26_b1 B4.lt
          have ap_A57_b6 : Apart A57 b6 := moved_apart mv62 ap_A26_b6 B9.lt
          have ap_A57_b11 : Apart A57 b11 := moved_apart mv62 ap_A26_b11 B14.lt
          have ap2_A57_A52 : Apart2 A57 A52 := moved_apart2 mv62 ap2_A26_A52 fun _ hg => O55.lt hg
          have gA_A57 := gA_moved hF mv62 gA_A26
          replace hV := hV.only hO61 (fun g h1 h2 => ap2_A_A26 g h1 h2)
          replace B4 := B4.only hO61 ap_A26_b1
          replace B9 := B9.only hO61 ap_A26_b6
          replace B14 := B14.only hO61 ap_A26_b11
          replace O55 := O55.only hO61 (fun g h1 h2 => ap2_A26_A52.symm g h1 h2)
          replace hF := hF.locA hO61 gA_A26
          clear O29
          refine wpList_nil ?_
          refine ⟨⟨hV, B4, B9, B14, trivial⟩, ?_⟩
          refine fx_one (i := 6) (by kernel_rfl) (fx_op rfl ?_)
          refine fx_append (E := msgE) (l := ([]) ++ l) (l' := [m]) el38 fr rfl rfl (by decide) rfl (fr.ev rfl) (fr.ev rfl) (by first | rfl | (simp; done) | (simp; omega)) (by first | rfl | (simp; done) | (simp; omega)) O60 O55.view (by first | omega | (simp; omega)) (by unfold maxLen; first | omega | (simp; omega)) ?_
          clear fr a
          intro A63 cap64 w65 O66 hO67 mv68 a fr
          have ap2_A63_A : Apart2 A63 A := moved_apart2 mv68 ap2_A57_A fun _ hg => hV.lt hg
          have ap_A63_b1 : Apart A63 b1 := moved_apart mv68 ap_A57_b1 B4.lt
          have ap_A63_b6 : Apart A63 b6 := moved_apart mv68 ap_A57_b6 B9.lt
          have ap_A63_b11 : Apart A63 b11 := moved_apart mv68 ap_A57_b11 B14.lt
          have ap2_A63_A52 : Apart2 A63 A52 := moved_apart2 mv68 ap2_A57_A52 fun _ hg => O55.lt hg
          have gA_A63 := gA_moved hF mv68 gA_A57
          replace hV := hV.only hO67 (fun g h1 h2 => ap2_A57_A.symm g h1 h2)
          replace B4 := B4.only hO67 ap_A57_b1
          replace B9 := B9.only hO67 ap_A57_b6
          replace B14 := B14.only hO67 ap_A57_b11
          replace O55 := O55.only hO67 (fun g h1 h2 => ap2_A57_A52.symm g h1 h2)
          replace hF := hF.locA hO67 gA_A57
          clear O60
          refine wpList_nil ?_
          refine ⟨⟨hV, B4, B9, B14, trivial⟩, ?_⟩
          refine fx_hdone (by kernel_rfl) ?_
          refine fx_tail ?_
          refine fx_val (v := .pointer (some ⟨b1, 1, none⟩)) fr rfl rfl (by first | decide | simp) (x_fieldAddr fo49_1 rfl (fr.ev rfl) rfl) ?_
          clear fr a; intro a fr
          refine fx_store1 sz38 rfl rfl rfl (fr.ev rfl) (fr.ev rfl) rfl B4 (show 1 < 2 by decide) (cs' := #[.int .i64 most, .slice A63 (((([]) ++ l) ++ ([m])).length) cap64]) rfl fun w69 hO70 hBq => ?_
          replace hV := hV.only hO70 (Apart.ne1 ap_A_b1)
          replace B9 := B9.only hO70 (by show ¬ b6 = b1; omega)
          replace B14 := B14.only hO70 (by show ¬ b11 = b1; omega)
          replace O55 := O55.only hO70 (Apart.ne1 ap_A52_b1)
          replace O66 := O66.only hO70 (Apart.ne1 ap_A63_b1)
          replace hF := hF.loc hO70 (.inr g_b1)
          replace B4 := hBq
          clear hBq
          refine wpList_nil ?_
          refine fx_next ?_
          refine wp_seq ?_
          refine wp_region_lit ?_  -- region 6
          refine fx_val (v := .agg (#[.int .i64 most, .slice A63 (((([]) ++ l) ++ ([m])).length) cap64])) fr rfl rfl (by first | decide | simp) (x_loadS ag49 rfl (fr.ev rfl) rfl B4.range) ?_
          clear fr a; intro a fr
          refine fx_storeS sz49 rfl rfl rfl (fr.ev rfl) (fr.ev rfl) (by simp [Value.oneCell']) B14 rfl rfl fun w71 hO72 hBq => ?_
          replace hV := hV.only hO72 (Apart.ne1 ap_A_b11)
          replace B9 := B9.only hO72 (by show ¬ b6 = b11; omega)
          replace O55 := O55.only hO72 (Apart.ne1 ap_A52_b11)
          replace O66 := O66.only hO72 (Apart.ne1 ap_A63_b11)
          replace B4 := B4.only hO72 (by show ¬ b1 = b11; omega)
          replace hF := hF.loc hO72 (.inr g_b11)
          replace B14 := hBq
          clear hBq
          refine fx_val (v := .int .i64 0) fr rfl rfl (by first | decide | simp) (x_assign rfl rfl) ?_
          clear fr a; intro a fr
          refine wpList_nil ?_
          refine fx_next ?_
          refine wp_ret ?_
          refine fx_ret fr [.cell 4 49, .tmp 5] [.agg (#[.int .i64 most, .slice A63 (((([]) ++ l) ++ ([m])).length) cap64]), .int .i64 0] rfl ⟨⟨_, rfl, x_loadV ag49 rfl B14.range⟩, rfl, trivial⟩ rfl ?_
          have e1 : sendL most l m = l ++ [m] := by simp [sendL, chk_good hc18]; try omega
          have e2 : sendE most l m = 0 := by simp [sendE, chk_good hc18]; try omega
          rw [e1, e2]
          exact ⟨_, rfl, A63, cap64, rfl, O66.view, fun g hg => .inr ((gA_A63 g hg).resolve_left id), hF⟩
      · skip
        refine fx_build1 (E := msgE) (p := m) el38 (by decide) fr rfl rfl (by decide) rfl (fr.ev rfl) ?_
        clear fr a
        intro A73 w74 hN75 O76 hA77 a fr
        have ap2_A_A73 : Apart2 A A73 := (new_apart2 hA77 fun _ hg => hV.lt hg).symm
        have ap_A73_b1 : Apart A73 b1 := new_apart hA77 B4.lt
        have ap_A73_b6 : Apart A73 b6 := new_apart hA77 B9.lt
        have ap_A73_b11 : Apart A73 b11 := new_apart hA77 B14.lt
        have gA_A73 := gA_new hF hA77
        replace hV := hV.new hN75
        replace B4 := B4.new hN75
        replace B9 := B9.new hN75
        replace B14 := B14.new hN75
        replace hF := hF.trNew hN75
        refine wpList_nil ?_
        refine ⟨⟨hV, B4, B9, B14, trivial⟩, ?_⟩
        refine fx_one (i := 0) (by kernel_rfl) (fx_op rfl ?_)
        refine fx_build0 (E := msgE) el38 fr rfl rfl (by decide) rfl ?_
        clear fr a
        intro A78 w79 hN80 O81 hA82 a fr
        have ap2_A_A78 : Apart2 A A78 := (new_apart2 hA82 fun _ hg => hV.lt hg).symm
        have ap_A78_b1 : Apart A78 b1 := new_apart hA82 B4.lt
        have ap_A78_b6 : Apart A78 b6 := new_apart hA82 B9.lt
        have ap_A78_b11 : Apart A78 b11 := new_apart hA82 B14.lt
        have ap2_A73_A78 : Apart2 A73 A78 := (new_apart2 hA82 fun _ hg => O76.lt hg).symm
        have gA_A78 := gA_new hF hA82
        replace hV := hV.new hN80
        replace B4 := B4.new hN80
        replace B9 := B9.new hN80
        replace B14 := B14.new hN80
        replace O76 := O76.new hN80
        replace hF := hF.trNew hN80
        refine wpList_nil ?_
        refine ⟨⟨hV, B4, B9, B14, trivial⟩, ?_⟩
        refine fx_one (i := 3) (by kernel_rfl) (fx_op rfl ?_)
        refine fx_append (E := msgE) (l := []) (l' := l) el38 fr rfl rfl (by decide) rfl (fr.ev rfl) (fr.ev rfl) (by first | rfl | (simp; done) | (simp; omega)) (by first | rfl | (simp; done) | (simp; omega)) O81 hV (by first | omega | (simp; omega)) (by unfold maxLen; first | omega | (simp; omega)) ?_
        clear fr a
        intro A83 cap84 w85 O86 hO87 mv88 a fr
        have ap2_A83_A : Apart2 A83 A := moved_apart2 mv88 ap2_A_A78.symm fun _ hg => hV.lt hg
        have ap_A83_b1 : Apart A83 b1 := moved_apart mv88 ap_A78_b1 B4.lt
        have ap_A83_b6 : Apart A83 b6 := moved_apart mv88 ap_A78_b6 B9.lt
        have ap_A83_b11 : Apart A83 b11 := moved_apart mv88 ap_A78_b11 B14.lt
        have ap2_A83_A73 : Apart2 A83 A73 := moved_apart2 mv88 ap2_A73_A78.symm fun _ hg => O76.lt hg
        have gA_A83 := gA_moved hF mv88 gA_A78
        replace hV := hV.only hO87 (fun g h1 h2 => ap2_A_A78 g h1 h2)
        replace B4 := B4.only hO87 ap_A78_b1
        replace B9 := B9.only hO87 ap_A78_b6
        replace B14 := B14.only hO87 ap_A78_b11
        replace O76 := O76.only hO87 (fun g h1 h2 => ap2_A73_A78 g h1 h2)
        replace hF := hF.locA hO87 gA_A78
        clear O81
        refine wpList_nil ?_
        refine ⟨⟨hV, B4, B9, B14, trivial⟩, ?_⟩
        refine fx_one (i := 6) (by kernel_rfl) (fx_op rfl ?_)
        refine fx_append (E := msgE) (l := ([]) ++ l) (l' := [m]) el38 fr rfl rfl (by decide) rfl (fr.ev rfl) (fr.ev rfl) (by first | rfl | (simp; done) | (simp; omega)) (by first | rfl | (simp; done) | (simp; omega)) O86 O76.view (by first | omega | (simp; omega)) (by unfold maxLen; first | omega | (simp; omega)) ?_
        clear fr a
        intro A89 cap90 w91 O92 hO93 mv94 a fr
        have ap2_A89_A : Apart2 A89 A := moved_apart2 mv94 ap2_A83_A fun _ hg => hV.lt hg
        have ap_A89_b1 : Apart A89 b1 := moved_apart mv94 ap_A83_b1 B4.lt
        have ap_A89_b6 : Apart A89 b6 := moved_apart mv94 ap_A83_b6 B9.lt
        have ap_A89_b11 : Apart A89 b11 := moved_apart mv94 ap_A83_b11 B14.lt
        have ap2_A89_A73 : Apart2 A89 A73 := moved_apart2 mv94 ap2_A83_A73 fun _ hg => O76.lt hg
        have gA_A89 := gA_moved hF mv94 gA_A83
        replace hV := hV.only hO93 (fun g h1 h2 => ap2_A83_A.symm g h1 h2)
        replace B4 := B4.only hO93 ap_A83_b1
        replace B9 := B9.only hO93 ap_A83_b6
        replace B14 := B14.only hO93 ap_A83_b11
        replace O76 := O76.only hO93 (fun g h1 h2 => ap2_A83_A73.symm g h1 h2)
        replace hF := hF.locA hO93 gA_A83
        clear O86
        refine wpList_nil ?_
        refine ⟨⟨hV, B4, B9, B14, trivial⟩, ?_⟩
        refine fx_hdone (by kernel_rfl) ?_
        refine fx_tail ?_
        refine fx_val (v := .pointer (some ⟨b1, 1, none⟩)) fr rfl rfl (by first | decide | simp) (x_fieldAddr fo49_1 rfl (fr.ev rfl) rfl) ?_
        clear fr a; intro a fr
        refine fx_store1 sz38 rfl rfl rfl (fr.ev rfl) (fr.ev rfl) rfl B4 (show 1 < 2 by decide) (cs' := #[.int .i64 most, .slice A89 (((([]) ++ l) ++ ([m])).length) cap90]) rfl fun w95 hO96 hBq => ?_
        replace hV := hV.only hO96 (Apart.ne1 ap_A_b1)
        replace B9 := B9.only hO96 (by show ¬ b6 = b1; omega)
        replace B14 := B14.only hO96 (by show ¬ b11 = b1; omega)
        replace O76 := O76.only hO96 (Apart.ne1 ap_A73_b1)
        replace O92 := O92.only hO96 (Apart.ne1 ap_A89_b1)
        replace hF := hF.loc hO96 (.inr g_b1)
        replace B4 := hBq
        clear hBq
        refine wpList_nil ?_
        refine fx_next ?_
        refine wp_seq ?_
        refine wp_region_lit ?_  -- region 6
        refine fx_val (v := .agg (#[.int .i64 most, .slice A89 (((([]) ++ l) ++ ([m])).length) cap90])) fr rfl rfl (by first | decide | simp) (x_loadS ag49 rfl (fr.ev rfl) rfl B4.range) ?_
        clear fr a; intro a fr
        refine fx_storeS sz49 rfl rfl rfl (fr.ev rfl) (fr.ev rfl) (by simp [Value.oneCell']) B14 rfl rfl fun w97 hO98 hBq => ?_
        replace hV := hV.only hO98 (Apart.ne1 ap_A_b11)
        replace B9 := B9.only hO98 (by show ¬ b6 = b11; omega)
        replace O76 := O76.only hO98 (Apart.ne1 ap_A73_b11)
        replace O92 := O92.only hO98 (Apart.ne1 ap_A89_b11)
        replace B4 := B4.only hO98 (by show ¬ b1 = b11; omega)
        replace hF := hF.loc hO98 (.inr g_b11)
        replace B14 := hBq
        clear hBq
        refine fx_val (v := .int .i64 0) fr rfl rfl (by first | decide | simp) (x_assign rfl rfl) ?_
        clear fr a; intro a fr
        refine wpList_nil ?_
        refine fx_next ?_
        refine wp_ret ?_
        refine fx_ret fr [.cell 4 49, .tmp 5] [.agg (#[.int .i64 most, .slice A89 (((([]) ++ l) ++ ([m])).length) cap90]), .int .i64 0] rfl ⟨⟨_, rfl, x_loadV ag49 rfl B14.range⟩, rfl, trivial⟩ rfl ?_
        have e1 : sendL most l m = l ++ [m] := by simp [sendL, chk_good hc18]; try omega
        have e2 : sendE most l m = 0 := by simp [sendE, chk_good hc18]; try omega
        rw [e1, e2]
        exact ⟨_, rfl, A89, cap90, rfl, O92.view, fun g hg => .inr ((gA_A89 g hg).resolve_left id), hF⟩
set_option maxRecDepth 100000 in
set_option maxHeartbeats 4000000 in
theorem rdeliver_c (pick : Int) {w : World} {A : Option Addr} {cap : Nat} {most : Int} {l : List Msg} (hV : View msgE w A cap l) (hl : l.length ≤ 100000) : Calls Try.prog 24 #[.agg #[.int .i64 most, .slice A l.length cap], .int .i64 pick] w (Ret fun v w' => ∃ A' cap', v = .tuple #[.agg #[.int .i64 most, .slice A' (delL pick l).length cap'], .agg (msgE.arr (delM pick l)), .bool (decide (l ≠ []))] ∧ View msgE w' A' cap' (delL pick l) ∧ (∀ g, inA A' g → inA A g ∨ w.heap.size ≤ g) ∧ New w w') := by
  have hVl := hV.len
  unfold maxLen at hVl
  have hF := Only.refl (fun _ => False) w
  refine fx_enter Try.func24 rfl (N := (47, [])) (T := [(0, .agg (#[.int .i64 most, .slice A l.length cap])), (1, .int .i64 pick)]) rfl (show 2 ≤ 47 by decide) ⟨rfl, rfl, trivial⟩ fun a fr => ?_
  refine wp_seq ?_
  refine wp_region_lit ?_  -- region 0
  refine fx_new fr rfl rfl (by first | decide | simp) (x_box (cs := #[.int .i64 most, .slice A l.length cap]) rfl (fr.ev rfl) rfl) ?_
  clear fr a
  intro b1 w2 hN3 B4 hb5 a fr
  have ap_A_b1 : Apart A b1 := hV.apart hb5
  have g_b1 := Nat.le_trans hF.size hb5
  replace hV := hV.new hN3
  replace hF := hF.trNew hN3
  refine fx_new fr rfl rfl (by first | decide | simp) (x_alloc (z := .agg (#[.int .i64 0, .slice none 0 0])) (cs := #[.int .i64 0, .slice none 0 0]) rfl (by kernel_rfl) rfl) ?_
  clear fr a
  intro b6 w7 hN8 B9 hb10 a fr
  have ap_A_b6 : Apart A b6 := hV.apart hb10
  have ne_b1_b6 : ¬ b1 = b6 := Nat.ne_of_lt (Nat.lt_of_lt_of_le B4.lt hb10)
  have g_b6 := Nat.le_trans hF.size hb10
  replace hV := hV.new hN8
  replace B4 := B4.new hN8
  replace hF := hF.trNew hN8
  refine fx_new fr rfl rfl (by first | decide | simp) (x_alloc (z := .agg (#[.int .i64 0, .int .i64 0, .int .i64 0, .int .u32 0, .int .u8 0, .int .u8 0, .int .u8 0, .int .u8 0, .int .u8 0, .int .u8 0, .int .u8 0, .int .u8 0, .int .u8 0, .int .u8 0, .int .u8 0, .int .u8 0, .int .u8 0, .int .u8 0, .int .u8 0, .int .u8 0])) (cs := msgE.arr msg0) rfl (by kernel_rfl) rfl) ?_
  clear fr a
  intro b11 w12 hN13 B14 hb15 a fr
  have ap_A_b11 : Apart A b11 := hV.apart hb15
  have ne_b1_b11 : ¬ b1 = b11 := Nat.ne_of_lt (Nat.lt_of_lt_of_le B4.lt hb15)
  have ne_b6_b11 : ¬ b6 = b11 := Nat.ne_of_lt (Nat.lt_of_lt_of_le B9.lt hb15)
  have g_b11 := Nat.le_trans hF.size hb15
  replace hV := hV.new hN13
  replace B4 := B4.new hN13
  replace B9 := B9.new hN13
  replace hF := hF.trNew hN13
  refine fx_val (v := .bool false) fr rfl rfl (by first | decide | simp) (x_assign rfl rfl) ?_
  clear fr a; intro a fr
  refine wpList_nil ?_
  refine fx_next ?_
  refine wp_seq ?_
  refine wp_seq ?_
  refine wp_region_lit ?_  -- region 1
  refine fx_val (v := .pointer (some ⟨b1, 1, none⟩)) fr rfl rfl (by first | decide | simp) (x_fieldAddr fo49_1 rfl (fr.ev rfl) rfl) ?_
  clear fr a; intro a fr
  refine fx_val (v := .slice A l.length cap) fr rfl rfl (by first | decide | simp) (x_load1 pl38 rfl (fr.ev rfl) (B4.cell 1 rfl)) ?_
  clear fr a; intro a fr
  refine fx_val (v := .int .i64 ((l.length : Nat) : Int)) fr rfl rfl (by first | decide | simp) (x_len Try.underlying38 rfl (fr.ev rfl)) ?_
  clear fr a; intro a fr
  refine fx_val (v := .bool (decide (((l.length : Nat) : Int) = 0))) fr rfl rfl (by first | decide | simp) (x_eql rfl (fr.ev rfl) rfl rfl) ?_
  clear fr a; intro a fr
  refine wpList_nil ?_
  refine fx_next ?_
  refine fx_cond fr rfl (fun hc16 => ?_) (fun hc16 => ?_)
  · skip
    have hc16 := of_decide_eq_true hc16
    refine wp_seq ?_
    refine wp_region_lit ?_  -- region 2
    refine fx_val (v := .agg (#[.int .i64 most, .slice A l.length cap])) fr rfl rfl (by first | decide | simp) (x_loadS ag49 rfl (fr.ev rfl) rfl B4.range) ?_
    clear fr a; intro a fr
    refine fx_val (v := .agg (msgE.arr (⟨0, 0, 0, 0, bs0⟩))) fr rfl rfl (by first | decide | simp) (x_build (cells := msgE.arr (⟨0, 0, 0, 0, bs0⟩)) rfl (by kernel_rfl)) ?_
    clear fr a; intro a fr
    refine fx_storeS sz49 rfl rfl rfl (fr.ev rfl) (fr.ev rfl) (by simp [Value.oneCell']) B9 rfl rfl fun w17 hO18 hBq => ?_
    replace hV := hV.only hO18 (Apart.ne1 ap_A_b6)
    replace B4 := B4.only hO18 (by show ¬ b1 = b6; omega)
    replace B14 := B14.only hO18 (by show ¬ b11 = b6; omega)
    replace hF := hF.loc hO18 (.inr g_b6)
    replace B9 := hBq
    clear hBq
    refine fx_storeS sz26 rfl rfl rfl (fr.ev rfl) (fr.ev rfl) (msgE.all _) B14 (msgE.size _) (msgE.size _) fun w19 hO20 hBq => ?_
    replace hV := hV.only hO20 (Apart.ne1 ap_A_b11)
    replace B4 := B4.only hO20 (by show ¬ b1 = b11; omega)
    replace B9 := B9.only hO20 (by show ¬ b6 = b11; omega)
    replace hF := hF.loc hO20 (.inr g_b11)
    replace B14 := hBq
    clear hBq
    refine fx_val (v := .bool false) fr rfl rfl (by first | decide | simp) (x_assign rfl rfl) ?_
    clear fr a; intro a fr
    refine wpList_nil ?_
    refine fx_next ?_
    refine wp_ret ?_
    refine fx_rt ?_
    refine fx_ret fr [.cell 4 49, .cell 5 26, .tmp 6] [.agg (#[.int .i64 most, .slice A l.length cap]), .agg (msgE.arr (⟨0, 0, 0, 0, bs0⟩)), .bool false] rfl ⟨⟨_, rfl, x_loadV ag49 rfl B9.range⟩, ⟨_, rfl, loadV_E (E := msgE) ag26 rfl (B14.rangeE msgE)⟩, rfl, trivial⟩ rfl ?_
    obtain rfl : l = [] := List.length_eq_zero_iff.1 (by omega)
    exact ⟨_, rfl, A, cap, rfl, hV, fun g hg => .inl hg, hF⟩
  · skip
    have hc16 := of_decide_eq_false hc16
    refine wp_skip ?_
    refine fx_next ?_
    refine wp_seq ?_
    refine wp_region_lit ?_  -- region 3
    refine fx_val (v := .int .i64 pick) fr rfl rfl (by first | decide | simp) (x_move rfl (fr.ev rfl)) ?_
    clear fr a; intro a fr
    refine fx_val (v := .pointer (some ⟨b1, 1, none⟩)) fr rfl rfl (by first | decide | simp) (x_fieldAddr fo49_1 rfl (fr.ev rfl) rfl) ?_
    clear fr a; intro a fr
    refine fx_val (v := .slice A l.length cap) fr rfl rfl (by first | decide | simp) (x_load1 pl38 rfl (fr.ev rfl) (B4.cell 1 rfl)) ?_
    clear fr a; intro a fr
    refine fx_val (v := .int .i64 ((l.length : Nat) : Int)) fr rfl rfl (by first | decide | simp) (x_len Try.underlying38 rfl (fr.ev rfl)) ?_
    clear fr a; intro a fr
    refine fx_val (v := .int .i64 (Int.tmod pick ((l.length : Nat) : Int))) fr rfl rfl (by first | decide | simp) (x_rem rfl (fr.ev rfl) (fr.ev rfl) (by omega) rfl) ?_
    clear fr a; intro a fr
    refine fx_val (v := .int .i64 (Int.tmod pick ((l.length : Nat) : Int))) fr rfl rfl (by first | decide | simp) (x_assign rfl (fr.ev rfl)) ?_
    clear fr a; intro a fr
    refine wpList_nil ?_
    refine fx_next ?_
    refine wp_seq ?_
    refine wp_seq ?_
    have hb := tmod_bd pick l.length (by omega)
    have hp := pickAt_lt pick l.length (by omega)
    refine wp_region_lit ?_  -- region 4
    refine fx_val (v := .int .i64 (Int.tmod pick ((l.length : Nat) : Int))) fr rfl rfl (by first | decide | simp) (x_move rfl (fr.ev rfl)) ?_
    clear fr a; intro a fr
    refine fx_val (v := .bool (decide (Int.tmod pick ((l.length : Nat) : Int) < 0))) fr rfl rfl (by first | decide | simp) (x_lss rfl (fr.ev rfl) rfl rfl) ?_
    clear fr a; intro a fr
    refine wpList_nil ?_
    refine fx_next ?_
    refine fx_cond fr rfl (fun hc21 => ?_) (fun hc21 => ?_)
    · skip
      have hc21 := of_decide_eq_true hc21
      refine wp_region_lit ?_  -- region 5
      refine fx_val (v := .int .i64 (Int.tmod pick ((l.length : Nat) : Int))) fr rfl rfl (by first | decide | simp) (x_move rfl (fr.ev rfl)) ?_
      clear fr a; intro a fr
      refine fx_val (v := .pointer (some ⟨b1, 1, none⟩)) fr rfl rfl (by first | decide | simp) (x_fieldAddr fo49_1 rfl (fr.ev rfl) rfl) ?_
      clear fr a; intro a fr
      refine fx_val (v := .slice A l.length cap) fr rfl rfl (by first | decide | simp) (x_load1 pl38 rfl (fr.ev rfl) (B4.cell 1 rfl)) ?_
      clear fr a; intro a fr
      refine fx_val (v := .int .i64 ((l.length : Nat) : Int)) fr rfl rfl (by first | decide | simp) (x_len Try.underlying38 rfl (fr.ev rfl)) ?_
      clear fr a; intro a fr
      refine fx_val (v := .int .i64 (Int.tmod pick ((l.length : Nat) : Int) + ((l.length : Nat) : Int))) fr rfl rfl (by first | decide | simp) (x_add rfl (fr.ev rfl) (fr.ev rfl) (i64w (r := Int.tmod pick ((l.length : Nat) : Int) + ((l.length : Nat) : Int)) (by omega) (by omega))) ?_
      clear fr a; intro a fr
      refine fx_val (v := .int .i64 (Int.tmod pick ((l.length : Nat) : Int) + ((l.length : Nat) : Int))) fr rfl rfl (by first | decide | simp) (x_assign rfl (fr.ev rfl)) ?_
      clear fr a; intro a fr
      refine wpList_nil ?_
      refine fx_next ?_
      refine wp_seq ?_
      rw [pick_neg (by omega) hc21] at fr
      refine wp_region_lit ?_  -- region 6
      refine fx_val (v := .pointer (some ⟨b1, 1, none⟩)) fr rfl rfl (by first | decide | simp) (x_fieldAddr fo49_1 rfl (fr.ev rfl) rfl) ?_
      clear fr a; intro a fr
      refine fx_val (v := .slice A l.length cap) fr rfl rfl (by first | decide | simp) (x_load1 pl38 rfl (fr.ev rfl) (B4.cell 1 rfl)) ?_
      clear fr a; intro a fr
      refine fx_val (v := .int .i64 ((pickAt pick l.length : Nat) : Int)) fr rfl rfl (by first | decide | simp) (x_move rfl (fr.ev rfl)) ?_
      clear fr a; intro a fr
      obtain ⟨g22, o23, hA24⟩ := (hV).some_ (by omega)
      refine fx_val (v := .pointer (some ⟨g22, o23 + (pickAt pick l.length) * 20, none⟩)) fr rfl rfl (by first | decide | simp) (x_indexV Try.underlying38 sz26 rfl (fr.ev rfl) hA24 (fr.ev rfl) (by omega) rfl) ?_
      clear fr a; intro a fr
      refine fx_val (v := .agg (msgE.arr (l.getD (pickAt pick l.length) msg0))) fr rfl rfl (by first | decide | simp) (x_loadE (E := msgE) ag26 rfl rfl (fr.ev rfl) ((hV).elem hA24 (pickAt pick l.length) msg0 (by omega))) ?_
      clear fr a; intro a fr
      refine fx_new fr rfl rfl (by first | decide | simp) (x_alloc (z := .agg (#[.int .i64 0, .int .i64 0, .int .i64 0, .int .u32 0, .int .u8 0, .int .u8 0, .int .u8 0, .int .u8 0, .int .u8 0, .int .u8 0, .int .u8 0, .int .u8 0, .int .u8 0, .int .u8 0, .int .u8 0, .int .u8 0, .int .u8 0, .int .u8 0, .int .u8 0, .int .u8 0])) (cs := msgE.arr msg0) rfl (by kernel_rfl) rfl) ?_
      clear fr a
      intro b25 w26 hN27 B28 hb29 a fr
      have ap_A_b25 : Apart A b25 := hV.apart hb29
      have ne_b1_b25 : ¬ b1 = b25 := Nat.ne_of_lt (Nat.lt_of_lt_of_le B4.lt hb29)
      have ne_b6_b25 : ¬ b6 = b25 := Nat.ne_of_lt (Nat.lt_of_lt_of_le B9.lt hb29)
      have ne_b11_b25 : ¬ b11 = b25 := Nat.ne_of_lt (Nat.lt_of_lt_of_le B14.lt hb29)
      have g_b25 := Nat.le_trans hF.size hb29
      replace hV := hV.new hN27
      replace B4 := B4.new hN27
      replace B9 := B9.new hN27
      replace B14 := B14.new hN27
      replace hF := hF.trNew hN27
      refine fx_storeS sz26 rfl rfl rfl (fr.ev rfl) (fr.ev rfl) (msgE.all _) B28 (msgE.size _) (msgE.size _) fun w30 hO31 hBq => ?_
      replace hV := hV.only hO31 (Apart.ne1 ap_A_b25)
      replace B4 := B4.only hO31 (by show ¬ b1 = b25; omega)
      replace B9 := B9.only hO31 (by show ¬ b6 = b25; omega)
      replace B14 := B14.only hO31 (by show ¬ b11 = b25; omega)
      replace hF := hF.loc hO31 (.inr g_b25)
      replace B28 := hBq
      clear hBq
      refine wpList_nil ?_
      refine fx_next ?_
      refine wp_seq ?_
      refine fx_heldT (n := 12) (k := 12) (fun w => View msgE w A cap l ∧ Blk w b1 49 (#[.int .i64 most, .slice A l.length cap]) ∧ Blk w b6 49 (#[.int .i64 0, .slice none 0 0]) ∧ Blk w b11 26 (msgE.arr msg0) ∧ Blk w b25 26 (msgE.arr (l.getD (pickAt pick l.length) msg0)) ∧ True) (by kernel_rfl) (by kernel_rfl) rfl ?_  -- region 7
      intro w32 hN33
      replace hV := hV.new hN33
      replace B4 := B4.new hN33
      replace B9 := B9.new hN33
      replace B14 := B14.new hN33
      replace B28 := B28.new hN33
      replace hF := hF.trNew hN33
      refine fx_take (i := 1) (v := .pointer (some ⟨b1, 1, none⟩)) fr rfl (by kernel_rfl) rfl rfl (by first | decide | simp) (fun _ _ _ h => h) (fun _ ⟨hV, B4, B9, B14, B28, _⟩ => x_fieldAddr fo49_1 rfl (fr.ev rfl) rfl) ⟨hV, B4, B9, B14, B28, trivial⟩ ?_
      clear fr a; intro a fr
      refine fx_take (i := 2) (v := .slice A l.length cap) fr rfl (by kernel_rfl) rfl rfl (by first | decide | simp) (fun _ _ _ h => h) (fun _ ⟨hV, B4, B9, B14, B28, _⟩ => x_load1 pl38 rfl (fr.ev rfl) (B4.cell 1 rfl)) ⟨hV, B4, B9, B14, B28, trivial⟩ ?_
      clear fr a; intro a fr
      refine fx_take (i := 3) (v := .int .i64 ((pickAt pick l.length : Nat) : Int)) fr rfl (by kernel_rfl) rfl rfl (by first | decide | simp) (fun _ _ _ h => h) (fun _ ⟨hV, B4, B9, B14, B28, _⟩ => x_move rfl (fr.ev rfl)) ⟨hV, B4, B9, B14, B28, trivial⟩ ?_
      clear fr a; intro a fr
      refine fx_take (i := 4) (v := .slice A (pickAt pick l.length) cap) fr rfl (by kernel_rfl) rfl rfl (by first | decide | simp) (fun _ _ _ h => h) (fun _ ⟨hV, B4, B9, B14, B28, _⟩ => x_slice_to Try.underlying38 sz26 rfl (fr.ev rfl) (fr.ev rfl) (by have := (hV).len; omega)) ⟨hV, B4, B9, B14, B28, trivial⟩ ?_
      clear fr a; intro a fr
      refine fx_take (i := 6) (v := .pointer (some ⟨b1, 1, none⟩)) fr rfl (by kernel_rfl) rfl rfl (by first | decide | simp) (fun _ _ _ h => h) (fun _ ⟨hV, B4, B9, B14, B28, _⟩ => x_fieldAddr fo49_1 rfl (fr.ev rfl) rfl) ⟨hV, B4, B9, B14, B28, trivial⟩ ?_
      clear fr a; intro a fr
      refine fx_take (i := 7) (v := .slice A l.length cap) fr rfl (by kernel_rfl) rfl rfl (by first | decide | simp) (fun _ _ _ h => h) (fun _ ⟨hV, B4, B9, B14, B28, _⟩ => x_load1 pl38 rfl (fr.ev rfl) (B4.cell 1 rfl)) ⟨hV, B4, B9, B14, B28, trivial⟩ ?_
      clear fr a; intro a fr
      refine fx_take (i := 8) (v := .int .i64 ((pickAt pick l.length : Nat) : Int)) fr rfl (by kernel_rfl) rfl rfl (by first | decide | simp) (fun _ _ _ h => h) (fun _ ⟨hV, B4, B9, B14, B28, _⟩ => x_move rfl (fr.ev rfl)) ⟨hV, B4, B9, B14, B28, trivial⟩ ?_
      clear fr a; intro a fr
      refine fx_take (i := 9) (v := .int .i64 (((pickAt pick l.length) + 1 : Nat) : Int)) fr rfl (by kernel_rfl) rfl rfl (by first | decide | simp) (fun _ _ _ h => h) (fun _ ⟨hV, B4, B9, B14, B28, _⟩ => x_add rfl (fr.ev rfl) rfl (i64w (r := (((pickAt pick l.length) + 1 : Nat) : Int)) (by omega) (by omega))) ⟨hV, B4, B9, B14, B28, trivial⟩ ?_
      clear fr a; intro a fr
      refine fx_take (i := 10) (v := .slice (cutA A cap ((pickAt pick l.length) + 1) 20) (l.length - ((pickAt pick l.length) + 1)) (cap - ((pickAt pick l.length) + 1))) fr rfl (by kernel_rfl) rfl rfl (by first | decide | simp) (fun _ _ _ h => h) (fun _ ⟨hV, B4, B9, B14, B28, _⟩ => x_slice_from Try.underlying38 sz26 rfl (fr.ev rfl) (fr.ev rfl) (by omega)) ⟨hV, B4, B9, B14, B28, trivial⟩ ?_
      clear fr a; intro a fr
      refine fx_one (i := 0) (by kernel_rfl) (fx_op rfl ?_)
      refine fx_build0 (E := msgE) el38 fr rfl rfl (by decide) rfl ?_
      clear fr a
      intro A34 w35 hN36 O37 hA38 a fr
      have ap2_A_A34 : Apart2 A A34 := (new_apart2 hA38 fun _ hg => hV.lt hg).symm
      have ap_A34_b1 : Apart A34 b1 := new_apart hA38 B4.lt
      have ap_A34_b6 : Apart A34 b6 := new_apart hA38 B9.lt
      have ap_A34_b11 : Apart A34 b11 := new_apart hA38 B14.lt
      have ap_A34_b25 : Apart A34 b25 := new_apart hA38 B28.lt
      have gA_A34 := gA_new hF hA38
      replace hV := hV.new hN36
      replace B4 := B4.new hN36
      replace B9 := B9.new hN36
      replace B14 := B14.new hN36
      replace B28 := B28.new hN36
      replace hF := hF.trNew hN36
      refine wpList_nil ?_
      refine ⟨⟨hV, B4, B9, B14, B28, trivial⟩, ?_⟩
      refine fx_one (i := 5) (by kernel_rfl) (fx_op rfl ?_)
      refine fx_append (E := msgE) (l := []) (l' := l.take (pickAt pick l.length)) el38 fr rfl rfl (by decide) rfl (fr.ev rfl) (fr.ev rfl) (by first | rfl | (simp; done) | (simp; omega)) (by first | rfl | (simp; done) | (simp; omega)) O37 ((hV).pre (pickAt pick l.length)) (by first | omega | (simp; omega)) (by unfold maxLen; first | omega | (simp; omega)) ?_
      clear fr a
      intro A39 cap40 w41 O42 hO43 mv44 a fr
      have ap2_A39_A : Apart2 A39 A := moved_apart2 mv44 ap2_A_A34.symm fun _ hg => hV.lt hg
      have ap_A39_b1 : Apart A39 b1 := moved_apart mv44 ap_A34_b1 B4.lt
      have ap_A39_b6 : Apart A39 b6 := moved_apart mv44 ap_A34_b6 B9.lt
      have ap_A39_b11 : Apart A39 b11 := moved_apart mv44 ap_A34_b11 B14.lt
      have ap_A39_b25 : Apart A39 b25 := moved_apart mv44 ap_A34_b25 B28.lt
      have gA_A39 := gA_moved hF mv44 gA_A34
      replace hV := hV.only hO43 (fun g h1 h2 => ap2_A_A34 g h1 h2)
      replace B4 := B4.only hO43 ap_A34_b1
      replace B9 := B9.only hO43 ap_A34_b6
      replace B14 := B14.only hO43 ap_A34_b11
      replace B28 := B28.only hO43 ap_A34_b25
      replace hF := hF.locA hO43 gA_A34
      clear O37
      refine wpList_nil ?_
      refine ⟨⟨hV, B4, B9, B14, B28, trivial⟩, ?_⟩
      refine fx_one (i := 11) (by kernel_rfl) (fx_op rfl ?_)
      refine fx_append (E := msgE) (l := ([]) ++ (l.take (pickAt pick l.length))) (l' := l.drop ((pickAt pick l.length) + 1)) el38 fr rfl rfl (by decide) rfl (fr.ev rfl) (fr.ev rfl) (by first | rfl | (simp; done) | (simp; omega)) (by first | rfl | (simp; done) | (simp; omega)) O42 ((hV).drop ((pickAt pick l.length) + 1) (by omega)) (by first | omega | (simp; omega)) (by unfold maxLen; first | omega | (simp; omega)) ?_
      clear fr a
      intro A45 cap46 w47 O48 hO49 mv50 a fr
      have ap2_A45_A : Apart2 A45 A := moved_apart2 mv50 ap2_A39_A fun _ hg => hV.lt hg
      have ap_A45_b1 : Apart A45 b1 := moved_apart mv50 ap_A39_b1 B4.lt
      have ap_A45_b6 : Apart A45 b6 := moved_apart mv50 ap_A39_b6 B9.lt
      have ap_A45_b11 : Apart A45 b11 := moved_apart mv50 ap_A39_b11 B14.lt
      have ap_A45_b25 : Apart A45 b25 := moved_apart mv50 ap_A39_b25 B28.lt
      have gA_A45 := gA_moved hF mv50 gA_A39
      replace hV := hV.only hO49 (fun g h1 h2 => ap2_A39_A.symm g h1 h2)
      replace B4 := B4.only hO49 ap_A39_b1
      replace B9 := B9.only hO49 ap_A39_b6
      replace B14 := B14.only hO49 ap_A39_b11
      replace B28 := B28.only hO49 ap_A39_b25
      replace hF := hF.locA hO49 gA_A39
      clear O42
      refine wpList_nil ?_
      refine ⟨⟨hV, B4, B9, B14, B28, trivial⟩, ?_⟩
      refine fx_hdone (by kernel_rfl) ?_
      refine fx_tail ?_
      refine fx_val (v := .pointer (some ⟨b1, 1, none⟩)) fr rfl rfl (by first | decide | simp) (x_fieldAddr fo49_1 rfl (fr.ev rfl) rfl) ?_
      clear fr a; intro a fr
      refine fx_store1 sz38 rfl rfl rfl (fr.ev rfl) (fr.ev rfl) rfl B4 (show 1 < 2 by decide) (cs' := #[.int .i64 most, .slice A45 (((([]) ++ (l.take (pickAt pick l.length))) ++ (l.drop ((pickAt pick l.length) + 1))).length) cap46]) rfl fun w51 hO52 hBq => ?_
      replace hV := hV.only hO52 (Apart.ne1 ap_A_b1)
      replace B9 := B9.only hO52 (by show ¬ b6 = b1; omega)
      replace B14 := B14.only hO52 (by show ¬ b11 = b1; omega)
      replace B28 := B28.only hO52 (by show ¬ b25 = b1; omega)
      replace O48 := O48.only hO52 (Apart.ne1 ap_A45_b1)
      replace hF := hF.loc hO52 (.inr g_b1)
      replace B4 := hBq
      clear hBq
      refine wpList_nil ?_
      refine fx_next ?_
      refine wp_seq ?_
      refine fx_heldT (n := 3) (k := 3) (fun w => View msgE w A cap l ∧ Blk w b11 26 (msgE.arr msg0) ∧ Blk w b25 26 (msgE.arr (l.getD (pickAt pick l.length) msg0)) ∧ Own msgE w A45 cap46 ((([]) ++ (l.take (pickAt pick l.length))) ++ (l.drop ((pickAt pick l.length) + 1))) ∧ Blk w b1 49 (#[.int .i64 most, .slice A45 (((([]) ++ (l.take (pickAt pick l.length))) ++ (l.drop ((pickAt pick l.length) + 1))).length) cap46]) ∧ True) (by kernel_rfl) (by kernel_rfl) rfl ?_  -- region 8
      intro w53 hN54
      replace hV := hV.new hN54
      replace B9 := B9.new hN54
      replace B14 := B14.new hN54
      replace B28 := B28.new hN54
      replace O48 := O48.new hN54
      replace B4 := B4.new hN54
      replace hF := hF.trNew hN54
      refine fx_take (i := 0) (v := .agg (#[.int .i64 most, .slice A45 (((([]) ++ (l.take (pickAt pick l.length))) ++ (l.drop ((pickAt pick l.length) + 1))).length) cap46])) fr rfl (by kernel_rfl) rfl rfl (by first | decide | simp) (fun _ _ _ h => h) (fun _ ⟨hV, B14, B28, O48, B4, _⟩ => x_loadS ag49 rfl (fr.ev rfl) rfl B4.range) ⟨hV, B14, B28, O48, B4, trivial⟩ ?_
      clear fr a; intro a fr
      refine fx_take (i := 1) (v := .agg (msgE.arr (l.getD (pickAt pick l.length) msg0))) fr rfl (by kernel_rfl) rfl rfl (by first | decide | simp) (fun _ _ _ h => h) (fun _ ⟨hV, B14, B28, O48, B4, _⟩ => x_loadE (E := msgE) ag26 rfl rfl (fr.ev rfl) (B28.rangeE msgE)) ⟨hV, B14, B28, O48, B4, trivial⟩ ?_
      clear fr a; intro a fr
      refine fx_one (i := 2) (by kernel_rfl) (fx_op rfl ?_)
      refine fx_storeS sz49 rfl rfl rfl (fr.ev rfl) (fr.ev rfl) (by simp [Value.oneCell']) B9 rfl rfl fun w55 hO56 hBq => ?_
      replace hV := hV.only hO56 (Apart.ne1 ap_A_b6)
      replace B14 := B14.only hO56 (by show ¬ b11 = b6; omega)
      replace B28 := B28.only hO56 (by show ¬ b25 = b6; omega)
      replace O48 := O48.only hO56 (Apart.ne1 ap_A45_b6)
      replace B4 := B4.only hO56 (by show ¬ b1 = b6; omega)
      replace hF := hF.loc hO56 (.inr g_b6)
      replace B9 := hBq
      clear hBq
      refine wpList_nil ?_
      refine ⟨⟨hV, B14, B28, O48, B4, trivial⟩, ?_⟩
      refine fx_hdone (by kernel_rfl) ?_
      refine fx_tail ?_
      refine fx_storeS sz26 rfl rfl rfl (fr.ev rfl) (fr.ev rfl) (msgE.all _) B14 (msgE.size _) (msgE.size _) fun w57 hO58 hBq => ?_
      replace hV := hV.only hO58 (Apart.ne1 ap_A_b11)
      replace B28 := B28.only hO58 (by show ¬ b25 = b11; omega)
      replace O48 := O48.only hO58 (Apart.ne1 ap_A45_b11)
      replace B4 := B4.only hO58 (by show ¬ b1 = b11; omega)
      replace B9 := B9.only hO58 (by show ¬ b6 = b11; omega)
      replace hF := hF.loc hO58 (.inr g_b11)
      replace B14 := hBq
      clear hBq
      refine fx_val (v := .bool true) fr rfl rfl (by first | decide | simp) (x_assign rfl rfl) ?_
      clear fr a; intro a fr
      refine wpList_nil ?_
      refine fx_next ?_
      refine wp_ret ?_
      refine fx_ret fr [.cell 4 49, .cell 5 26, .tmp 6] [.agg (#[.int .i64 most, .slice A45 (((([]) ++ (l.take (pickAt pick l.length))) ++ (l.drop ((pickAt pick l.length) + 1))).length) cap46]), .agg (msgE.arr (l.getD (pickAt pick l.length) msg0)), .bool true] rfl ⟨⟨_, rfl, x_loadV ag49 rfl B9.range⟩, ⟨_, rfl, loadV_E (E := msgE) ag26 rfl (B14.rangeE msgE)⟩, rfl, trivial⟩ rfl ?_
      have hne : l ≠ [] := by rintro rfl; simp at hc16
      have e1 : delL pick l = l.take (pickAt pick l.length) ++ l.drop (pickAt pick l.length + 1) := by simp [delL, hne]
      have e2 : delM pick l = l.getD (pickAt pick l.length) msg0 := by simp [delM, hne]
      rw [e1, e2, decide_eq_true hne]
      exact ⟨_, rfl, A45, cap46, rfl, O48.view, fun g hg => .inr ((gA_A45 g hg).resolve_left id), hF⟩
    · skip
      have hc21 := of_decide_eq_false hc21
      refine wp_skip ?_
      refine fx_next ?_
      refine wp_seq ?_
      rw [pick_pos (by omega) hc21] at fr
      refine wp_region_lit ?_  -- region 6
      refine fx_val (v := .pointer (some ⟨b1, 1, none⟩)) fr rfl rfl (by first | decide | simp) (x_fieldAddr fo49_1 rfl (fr.ev rfl) rfl) ?_
      clear fr a; intro a fr
      refine fx_val (v := .slice A l.length cap) fr rfl rfl (by first | decide | simp) (x_load1 pl38 rfl (fr.ev rfl) (B4.cell 1 rfl)) ?_
      clear fr a; intro a fr
      refine fx_val (v := .int .i64 ((pickAt pick l.length : Nat) : Int)) fr rfl rfl (by first | decide | simp) (x_move rfl (fr.ev rfl)) ?_
      clear fr a; intro a fr
      obtain ⟨g59, o60, hA61⟩ := (hV).some_ (by omega)
      refine fx_val (v := .pointer (some ⟨g59, o60 + (pickAt pick l.length) * 20, none⟩)) fr rfl rfl (by first | decide | simp) (x_indexV Try.underlying38 sz26 rfl (fr.ev rfl) hA61 (fr.ev rfl) (by omega) rfl) ?_
      clear fr a; intro a fr
      refine fx_val (v := .agg (msgE.arr (l.getD (pickAt pick l.length) msg0))) fr rfl rfl (by first | decide | simp) (x_loadE (E := msgE) ag26 rfl rfl (fr.ev rfl) ((hV).elem hA61 (pickAt pick l.length) msg0 (by omega))) ?_
      clear fr a; intro a fr
      refine fx_new fr rfl rfl (by first | decide | simp) (x_alloc (z := .agg (#[.int .i64 0, .int .i64 0, .int .i64 0, .int .u32 0, .int .u8 0, .int .u8 0, .int .u8 0, .int .u8 0, .int .u8 0, .int .u8 0, .int .u8 0, .int .u8 0, .int .u8 0, .int .u8 0, .int .u8 0, .int .u8 0, .int .u8 0, .int .u8 0, .int .u8 0, .int .u8 0])) (cs := msgE.arr msg0) rfl (by kernel_rfl) rfl) ?_
      clear fr a
      intro b62 w63 hN64 B65 hb66 a fr
      have ap_A_b62 : Apart A b62 := hV.apart hb66
      have ne_b1_b62 : ¬ b1 = b62 := Nat.ne_of_lt (Nat.lt_of_lt_of_le B4.lt hb66)
      have ne_b6_b62 : ¬ b6 = b62 := Nat.ne_of_lt (Nat.lt_of_lt_of_le B9.lt hb66)
      have ne_b11_b62 : ¬ b11 = b62 := Nat.ne_of_lt (Nat.lt_of_lt_of_le B14.lt hb66)
      have g_b62 := Nat.le_trans hF.size hb66
      replace hV := hV.new hN64
      replace B4 := B4.new hN64
      replace B9 := B9.new hN64
      replace B14 := B14.new hN64
      replace hF := hF.trNew hN64
      refine fx_storeS sz26 rfl rfl rfl (fr.ev rfl) (fr.ev rfl) (msgE.all _) B65 (msgE.size _) (msgE.size _) fun w67 hO68 hBq => ?_
      replace hV := hV.only hO68 (Apart.ne1 ap_A_b62)
      replace B4 := B4.only hO68 (by show ¬ b1 = b62; omega)
      replace B9 := B9.only hO68 (by show ¬ b6 = b62; omega)
      replace B14 := B14.only hO68 (by show ¬ b11 = b62; omega)
      replace hF := hF.loc hO68 (.inr g_b62)
      replace B65 := hBq
      clear hBq
      refine wpList_nil ?_
      refine fx_next ?_
      refine wp_seq ?_
      refine fx_heldT (n := 12) (k := 12) (fun w => View msgE w A cap l ∧ Blk w b1 49 (#[.int .i64 most, .slice A l.length cap]) ∧ Blk w b6 49 (#[.int .i64 0, .slice none 0 0]) ∧ Blk w b11 26 (msgE.arr msg0) ∧ Blk w b62 26 (msgE.arr (l.getD (pickAt pick l.length) msg0)) ∧ True) (by kernel_rfl) (by kernel_rfl) rfl ?_  -- region 7
      intro w69 hN70
      replace hV := hV.new hN70
      replace B4 := B4.new hN70
      replace B9 := B9.new hN70
      replace B14 := B14.new hN70
      replace B65 := B65.new hN70
      replace hF := hF.trNew hN70
      refine fx_take (i := 1) (v := .pointer (some ⟨b1, 1, none⟩)) fr rfl (by kernel_rfl) rfl rfl (by first | decide | simp) (fun _ _ _ h => h) (fun _ ⟨hV, B4, B9, B14, B65, _⟩ => x_fieldAddr fo49_1 rfl (fr.ev rfl) rfl) ⟨hV, B4, B9, B14, B65, trivial⟩ ?_
      clear fr a; intro a fr
      refine fx_take (i := 2) (v := .slice A l.length cap) fr rfl (by kernel_rfl) rfl rfl (by first | decide | simp) (fun _ _ _ h => h) (fun _ ⟨hV, B4, B9, B14, B65, _⟩ => x_load1 pl38 rfl (fr.ev rfl) (B4.cell 1 rfl)) ⟨hV, B4, B9, B14, B65, trivial⟩ ?_
      clear fr a; intro a fr
      refine fx_take (i := 3) (v := .int .i64 ((pickAt pick l.length : Nat) : Int)) fr rfl (by kernel_rfl) rfl rfl (by first | decide | simp) (fun _ _ _ h => h) (fun _ ⟨hV, B4, B9, B14, B65, _⟩ => x_move rfl (fr.ev rfl)) ⟨hV, B4, B9, B14, B65, trivial⟩ ?_
      clear fr a; intro a fr
      refine fx_take (i := 4) (v := .slice A (pickAt pick l.length) cap) fr rfl (by kernel_rfl) rfl rfl (by first | decide | simp) (fun _ _ _ h => h) (fun _ ⟨hV, B4, B9, B14, B65, _⟩ => x_slice_to Try.underlying38 sz26 rfl (fr.ev rfl) (fr.ev rfl) (by have := (hV).len; omega)) ⟨hV, B4, B9, B14, B65, trivial⟩ ?_
      clear fr a; intro a fr
      refine fx_take (i := 6) (v := .pointer (some ⟨b1, 1, none⟩)) fr rfl (by kernel_rfl) rfl rfl (by first | decide | simp) (fun _ _ _ h => h) (fun _ ⟨hV, B4, B9, B14, B65, _⟩ => x_fieldAddr fo49_1 rfl (fr.ev rfl) rfl) ⟨hV, B4, B9, B14, B65, trivial⟩ ?_
      clear fr a; intro a fr
      refine fx_take (i := 7) (v := .slice A l.length cap) fr rfl (by kernel_rfl) rfl rfl (by first | decide | simp) (fun _ _ _ h => h) (fun _ ⟨hV, B4, B9, B14, B65, _⟩ => x_load1 pl38 rfl (fr.ev rfl) (B4.cell 1 rfl)) ⟨hV, B4, B9, B14, B65, trivial⟩ ?_
      clear fr a; intro a fr
      refine fx_take (i := 8) (v := .int .i64 ((pickAt pick l.length : Nat) : Int)) fr rfl (by kernel_rfl) rfl rfl (by first | decide | simp) (fun _ _ _ h => h) (fun _ ⟨hV, B4, B9, B14, B65, _⟩ => x_move rfl (fr.ev rfl)) ⟨hV, B4, B9, B14, B65, trivial⟩ ?_
      clear fr a; intro a fr
      refine fx_take (i := 9) (v := .int .i64 (((pickAt pick l.length) + 1 : Nat) : Int)) fr rfl (by kernel_rfl) rfl rfl (by first | decide | simp) (fun _ _ _ h => h) (fun _ ⟨hV, B4, B9, B14, B65, _⟩ => x_add rfl (fr.ev rfl) rfl (i64w (r := (((pickAt pick l.length) + 1 : Nat) : Int)) (by omega) (by omega))) ⟨hV, B4, B9, B14, B65, trivial⟩ ?_
      clear fr a; intro a fr
      refine fx_take (i := 10) (v := .slice (cutA A cap ((pickAt pick l.length) + 1) 20) (l.length - ((pickAt pick l.length) + 1)) (cap - ((pickAt pick l.length) + 1))) fr rfl (by kernel_rfl) rfl rfl (by first | decide | simp) (fun _ _ _ h => h) (fun _ ⟨hV, B4, B9, B14, B65, _⟩ => x_slice_from Try.underlying38 sz26 rfl (fr.ev rfl) (fr.ev rfl) (by omega)) ⟨hV, B4, B9, B14, B65, trivial⟩ ?_
      clear fr a; intro a fr
      refine fx_one (i := 0) (by kernel_rfl) (fx_op rfl ?_)
      refine fx_build0 (E := msgE) el38 fr rfl rfl (by decide) rfl ?_
      clear fr a
      intro A71 w72 hN73 O74 hA75 a fr
      have ap2_A_A71 : Apart2 A A71 := (new_apart2 hA75 fun _ hg => hV.lt hg).symm
      have ap_A71_b1 : Apart A71 b1 := new_apart hA75 B4.lt
      have ap_A71_b6 : Apart A71 b6 := new_apart hA75 B9.lt
      have ap_A71_b11 : Apart A71 b11 := new_apart hA75 B14.lt
      have ap_A71_b62 : Apart A71 b62 := new_apart hA75 B65.lt
      have gA_A71 := gA_new hF hA75
      replace hV := hV.new hN73
      replace B4 := B4.new hN73
      replace B9 := B9.new hN73
      replace B14 := B14.new hN73
      replace B65 := B65.new hN73
      replace hF := hF.trNew hN73
      refine wpList_nil ?_
      refine ⟨⟨hV, B4, B9, B14, B65, trivial⟩, ?_⟩
      refine fx_one (i := 5) (by kernel_rfl) (fx_op rfl ?_)
      refine fx_append (E := msgE) (l := []) (l' := l.take (pickAt pick l.length)) el38 fr rfl rfl (by decide) rfl (fr.ev rfl) (fr.ev rfl) (by first | rfl | (simp; done) | (simp; omega)) (by first | rfl | (simp; done) | (simp; omega)) O74 ((hV).pre (pickAt pick l.length)) (by first | omega | (simp; omega)) (by unfold maxLen; first | omega | (simp; omega)) ?_
      clear fr a
      intro A76 cap77 w78 O79 hO80 mv81 a fr
      have ap2_A76_A : Apart2 A76 A := moved_apart2 mv81 ap2_A_A71.symm fun _ hg => hV.lt hg
      have ap_A76_b1 : Apart A76 b1 := moved_apart mv81 ap_A71_b1 B4.lt
      have ap_A76_b6 : Apart A76 b6 := moved_apart mv81 ap_A71_b6 B9.lt
      have ap_A76_b11 : Apart A76 b11 := moved_apart mv81 ap_A71_b11 B14.lt
      have ap_A76_b62 : Apart A76 b62 := moved_apart mv81 ap_A71_b62 B65.lt
      have gA_A76 := gA_moved hF mv81 gA_A71
      replace hV := hV.only hO80 (fun g h1 h2 => ap2_A_A71 g h1 h2)
      replace B4 := B4.only hO80 ap_A71_b1
      replace B9 := B9.only hO80 ap_A71_b6
      replace B14 := B14.only hO80 ap_A71_b11
      replace B65 := B65.only hO80 ap_A71_b62
      replace hF := hF.locA hO80 gA_A71
      clear O74
      refine wpList_nil ?_
      refine ⟨⟨hV, B4, B9, B14, B65, trivial⟩, ?_⟩
      refine fx_one (i := 11) (by kernel_rfl) (fx_op rfl ?_)
      refine fx_append (E := msgE) (l := ([]) ++ (l.take (pickAt pick l.length))) (l' := l.drop ((pickAt pick l.length) + 1)) el38 fr rfl rfl (by decide) rfl (fr.ev rfl) (fr.ev rfl) (by first | rfl | (simp; done) | (simp; omega)) (by first | rfl | (simp; done) | (simp; omega)) O79 ((hV).drop ((pickAt pick l.length) + 1) (by omega)) (by first | omega | (simp; omega)) (by unfold maxLen; first | omega | (simp; omega)) ?_
      clear fr a
      intro A82 cap83 w84 O85 hO86 mv87 a fr
      have ap2_A82_A : Apart2 A82 A := moved_apart2 mv87 ap2_A76_A fun _ hg => hV.lt hg
      have ap_A82_b1 : Apart A82 b1 := moved_apart mv87 ap_A76_b1 B4.lt
      have ap_A82_b6 : Apart A82 b6 := moved_apart mv87 ap_A76_b6 B9.lt
      have ap_A82_b11 : Apart A82 b11 := moved_apart mv87 ap_A76_b11 B14.lt
      have ap_A82_b62 : Apart A82 b62 := moved_apart mv87 ap_A76_b62 B65.lt
      have gA_A82 := gA_moved hF mv87 gA_A76
      replace hV := hV.only hO86 (fun g h1 h2 => ap2_A76_A.symm g h1 h2)
      replace B4 := B4.only hO86 ap_A76_b1
      replace B9 := B9.only hO86 ap_A76_b6
      replace B14 := B14.only hO86 ap_A76_b11
      replace B65 := B65.only hO86 ap_A76_b62
      replace hF := hF.locA hO86 gA_A76
      clear O79
      refine wpList_nil ?_
      refine ⟨⟨hV, B4, B9, B14, B65, trivial⟩, ?_⟩
      refine fx_hdone (by kernel_rfl) ?_
      refine fx_tail ?_
      refine fx_val (v := .pointer (some ⟨b1, 1, none⟩)) fr rfl rfl (by first | decide | simp) (x_fieldAddr fo49_1 rfl (fr.ev rfl) rfl) ?_
      clear fr a; intro a fr
      refine fx_store1 sz38 rfl rfl rfl (fr.ev rfl) (fr.ev rfl) rfl B4 (show 1 < 2 by decide) (cs' := #[.int .i64 most, .slice A82 (((([]) ++ (l.take (pickAt pick l.length))) ++ (l.drop ((pickAt pick l.length) + 1))).length) cap83]) rfl fun w88 hO89 hBq => ?_
      replace hV := hV.only hO89 (Apart.ne1 ap_A_b1)
      replace B9 := B9.only hO89 (by show ¬ b6 = b1; omega)
      replace B14 := B14.only hO89 (by show ¬ b11 = b1; omega)
      replace B65 := B65.only hO89 (by show ¬ b62 = b1; omega)
      replace O85 := O85.only hO89 (Apart.ne1 ap_A82_b1)
      replace hF := hF.loc hO89 (.inr g_b1)
      replace B4 := hBq
      clear hBq
      refine wpList_nil ?_
      refine fx_next ?_
      refine wp_seq ?_
      refine fx_heldT (n := 3) (k := 3) (fun w => View msgE w A cap l ∧ Blk w b11 26 (msgE.arr msg0) ∧ Blk w b62 26 (msgE.arr (l.getD (pickAt pick l.length) msg0)) ∧ Own msgE w A82 cap83 ((([]) ++ (l.take (pickAt pick l.length))) ++ (l.drop ((pickAt pick l.length) + 1))) ∧ Blk w b1 49 (#[.int .i64 most, .slice A82 (((([]) ++ (l.take (pickAt pick l.length))) ++ (l.drop ((pickAt pick l.length) + 1))).length) cap83]) ∧ True) (by kernel_rfl) (by kernel_rfl) rfl ?_  -- region 8
      intro w90 hN91
      replace hV := hV.new hN91
      replace B9 := B9.new hN91
      replace B14 := B14.new hN91
      replace B65 := B65.new hN91
      replace O85 := O85.new hN91
      replace B4 := B4.new hN91
      replace hF := hF.trNew hN91
      refine fx_take (i := 0) (v := .agg (#[.int .i64 most, .slice A82 (((([]) ++ (l.take (pickAt pick l.length))) ++ (l.drop ((pickAt pick l.length) + 1))).length) cap83])) fr rfl (by kernel_rfl) rfl rfl (by first | decide | simp) (fun _ _ _ h => h) (fun _ ⟨hV, B14, B65, O85, B4, _⟩ => x_loadS ag49 rfl (fr.ev rfl) rfl B4.range) ⟨hV, B14, B65, O85, B4, trivial⟩ ?_
      clear fr a; intro a fr
      refine fx_take (i := 1) (v := .agg (msgE.arr (l.getD (pickAt pick l.length) msg0))) fr rfl (by kernel_rfl) rfl rfl (by first | decide | simp) (fun _ _ _ h => h) (fun _ ⟨hV, B14, B65, O85, B4, _⟩ => x_loadE (E := msgE) ag26 rfl rfl (fr.ev rfl) (B65.rangeE msgE)) ⟨hV, B14, B65, O85, B4, trivial⟩ ?_
      clear fr a; intro a fr
      refine fx_one (i := 2) (by kernel_rfl) (fx_op rfl ?_)
      refine fx_storeS sz49 rfl rfl rfl (fr.ev rfl) (fr.ev rfl) (by simp [Value.oneCell']) B9 rfl rfl fun w92 hO93 hBq => ?_
      replace hV := hV.only hO93 (Apart.ne1 ap_A_b6)
      replace B14 := B14.only hO93 (by show ¬ b11 = b6; omega)
      replace B65 := B65.only hO93 (by show ¬ b62 = b6; omega)
      replace O85 := O85.only hO93 (Apart.ne1 ap_A82_b6)
      replace B4 := B4.only hO93 (by show ¬ b1 = b6; omega)
      replace hF := hF.loc hO93 (.inr g_b6)
      replace B9 := hBq
      clear hBq
      refine wpList_nil ?_
      refine ⟨⟨hV, B14, B65, O85, B4, trivial⟩, ?_⟩
      refine fx_hdone (by kernel_rfl) ?_
      refine fx_tail ?_
      refine fx_storeS sz26 rfl rfl rfl (fr.ev rfl) (fr.ev rfl) (msgE.all _) B14 (msgE.size _) (msgE.size _) fun w94 hO95 hBq => ?_
      replace hV := hV.only hO95 (Apart.ne1 ap_A_b11)
      replace B65 := B65.only hO95 (by show ¬ b62 = b11; omega)
      replace O85 := O85.only hO95 (Apart.ne1 ap_A82_b11)
      replace B4 := B4.only hO95 (by show ¬ b1 = b11; omega)
      replace B9 := B9.only hO95 (by show ¬ b6 = b11; omega)
      replace hF := hF.loc hO95 (.inr g_b11)
      replace B14 := hBq
      clear hBq
      refine fx_val (v := .bool true) fr rfl rfl (by first | decide | simp) (x_assign rfl rfl) ?_
      clear fr a; intro a fr
      refine wpList_nil ?_
      refine fx_next ?_
      refine wp_ret ?_
      refine fx_ret fr [.cell 4 49, .cell 5 26, .tmp 6] [.agg (#[.int .i64 most, .slice A82 (((([]) ++ (l.take (pickAt pick l.length))) ++ (l.drop ((pickAt pick l.length) + 1))).length) cap83]), .agg (msgE.arr (l.getD (pickAt pick l.length) msg0)), .bool true] rfl ⟨⟨_, rfl, x_loadV ag49 rfl B9.range⟩, ⟨_, rfl, loadV_E (E := msgE) ag26 rfl (B14.rangeE msgE)⟩, rfl, trivial⟩ rfl ?_
      have hne : l ≠ [] := by rintro rfl; simp at hc16
      have e1 : delL pick l = l.take (pickAt pick l.length) ++ l.drop (pickAt pick l.length + 1) := by simp [delL, hne]
      have e2 : delM pick l = l.getD (pickAt pick l.length) msg0 := by simp [delM, hne]
      rw [e1, e2, decide_eq_true hne]
      exact ⟨_, rfl, A82, cap83, rfl, O85.view, fun g hg => .inr ((gA_A82 g hg).resolve_left id), hF⟩
set_option maxRecDepth 100000 in
set_option maxHeartbeats 4000000 in
theorem rto_c (node : Int) {w : World} {A : Option Addr} {cap : Nat} {most : Int} {l : List Msg} (hV : View msgE w A cap l) (hl : l.length ≤ 100000) : Calls Try.prog 32 #[.agg #[.int .i64 most, .slice A l.length cap], .int .i64 node] w (Ret fun v w' => ∃ A' cap', v = .slice A' (selAll node l).length cap' ∧ Own msgE w' A' cap' (selAll node l) ∧ (∀ g, inA A' g → w.heap.size ≤ g) ∧ New w w') := by
  have hVl := hV.len
  unfold maxLen at hVl
  have hF := Only.refl (fun _ => False) w
  refine fx_enter Try.func32 rfl (N := (31, [])) (T := [(0, .agg (#[.int .i64 most, .slice A l.length cap])), (1, .int .i64 node)]) rfl (show 2 ≤ 31 by decide) ⟨rfl, rfl, trivial⟩ fun a fr => ?_
  refine wp_seq ?_
  refine wp_region_lit ?_  -- region 0
  refine fx_new fr rfl rfl (by first | decide | simp) (x_box (cs := #[.int .i64 most, .slice A l.length cap]) rfl (fr.ev rfl) rfl) ?_
  clear fr a
  intro b1 w2 hN3 B4 hb5 a fr
  have ap_A_b1 : Apart A b1 := hV.apart hb5
  have g_b1 := Nat.le_trans hF.size hb5
  replace hV := hV.new hN3
  replace hF := hF.trNew hN3
  refine fx_val (v := .slice none 0 0) fr rfl rfl (by first | decide | simp) (x_assign rfl rfl) ?_
  clear fr a; intro a fr
  refine wpList_nil ?_
  refine fx_next ?_
  refine wp_seq ?_
  refine wp_region_lit ?_  -- region 1
  refine fx_val (v := .slice none 0 0) fr rfl rfl (by first | decide | simp) (x_assign rfl rfl) ?_
  clear fr a; intro a fr
  refine wpList_nil ?_
  refine fx_next ?_
  refine wp_seq ?_
  refine wp_seq ?_
  refine wp_region_lit ?_  -- region 2
  refine fx_val (v := .int .i64 0) fr rfl rfl (by first | decide | simp) (x_assign rfl rfl) ?_
  clear fr a; intro a fr
  refine wpList_nil ?_
  refine fx_next ?_
  refine wp_block ?_
  refine fx_loop (fun nM a wL => ∃ k : Nat, ∃ S : Option Addr, ∃ sc : Nat, ∃ os : List Msg, nM = l.length - k ∧ Fr (31, []) [(1, .int .i64 node), (2, .pointer (some ⟨b1, 0, none⟩)), (5, .slice S os.length sc), (6, .int .i64 ((k : Nat) : Int))] a ∧ Only (fun _ => False) w wL ∧ View msgE wL A cap l ∧ Blk wL b1 49 (#[.int .i64 most, .slice A l.length cap]) ∧ Own msgE wL S sc os ∧ k ≤ l.length ∧ os = sel node l k ∧ os.length ≤ k ∧ (Apart2 A S) ∧ (Apart S b1) ∧ (∀ g, inA S g → (fun _ => False) g ∨ w.heap.size ≤ g)) (n0 := _) ⟨0, none, 0, [], rfl, fr.sub ⟨rfl, rfl, rfl, rfl, trivial⟩, hF, hV, B4, Own.nil, by omega, rfl, Nat.le_refl _, (fun k _ h => apart_none k h), (apart_none b1), gA_none⟩ ?_
  rintro n7 a w6 ⟨k, S, sc, os, rfl, fr, hF, hV, B4, Oo, hk, hos, hok, ap2_A_S, ap_S_b1, gA_S⟩
  refine wp_seq ?_
  refine wp_seq ?_
  refine wp_region_lit ?_  -- region 3
  refine fx_val (v := .int .i64 ((k : Nat) : Int)) fr rfl rfl (by first | decide | simp) (x_move rfl (fr.ev rfl)) ?_
  clear fr a; intro a fr
  refine fx_val (v := .pointer (some ⟨b1, 1, none⟩)) fr rfl rfl (by first | decide | simp) (x_fieldAddr fo49_1 rfl (fr.ev rfl) rfl) ?_
  clear fr a; intro a fr
  refine fx_val (v := .slice A l.length cap) fr rfl rfl (by first | decide | simp) (x_load1 pl38 rfl (fr.ev rfl) (B4.cell 1 rfl)) ?_
  clear fr a; intro a fr
  refine fx_val (v := .int .i64 ((l.length : Nat) : Int)) fr rfl rfl (by first | decide | simp) (x_len Try.underlying38 rfl (fr.ev rfl)) ?_
  clear fr a; intro a fr
  refine fx_val (v := .bool (decide (((k : Nat) : Int) < ((l.length : Nat) : Int)))) fr rfl rfl (by first | decide | simp) (x_lss rfl (fr.ev rfl) (fr.ev rfl) rfl) ?_
  clear fr a; intro a fr
  refine wpList_nil ?_
  refine fx_next ?_
  refine fx_cond fr rfl (fun hc8 => ?_) (fun hc8 => ?_)
  · skip
    have hc8 := of_decide_eq_true hc8
    refine wp_skip ?_
    refine fx_next ?_
    refine wp_seq ?_
    refine wp_block ?_
    refine wp_seq ?_
    refine wp_region_lit ?_  -- region 5
    refine fx_val (v := .pointer (some ⟨b1, 1, none⟩)) fr rfl rfl (by first | decide | simp) (x_fieldAddr fo49_1 rfl (fr.ev rfl) rfl) ?_
    clear fr a; intro a fr
    refine fx_val (v := .slice A l.length cap) fr rfl rfl (by first | decide | simp) (x_load1 pl38 rfl (fr.ev rfl) (B4.cell 1 rfl)) ?_
    clear fr a; intro a fr
    refine fx_val (v := .int .i64 ((k : Nat) : Int)) fr rfl rfl (by first | decide | simp) (x_move rfl (fr.ev rfl)) ?_
    clear fr a; intro a fr
    obtain ⟨g9, o10, hA11⟩ := (hV).some_ (by omega)
    refine fx_val (v := .pointer (some ⟨g9, o10 + k * 20, none⟩)) fr rfl rfl (by first | decide | simp) (x_indexV Try.underlying38 sz26 rfl (fr.ev rfl) hA11 (fr.ev rfl) (by omega) rfl) ?_
    clear fr a; intro a fr
    refine fx_val (v := .pointer (some ⟨g9, o10 + k * 20 + 2, none⟩)) fr rfl rfl (by first | decide | simp) (x_fieldAddr fo26_2 rfl (fr.ev rfl) rfl) ?_
    clear fr a; intro a fr
    refine fx_val (v := .int .i64 ((l.getD k msg0).dst)) fr rfl rfl (by first | decide | simp) (x_load1 pl3 rfl (fr.ev rfl) (range_cell ((hV).elem hA11 k msg0 (by omega)) 2 rfl rfl)) ?_
    clear fr a; intro a fr
    refine fx_val (v := .int .i64 node) fr rfl rfl (by first | decide | simp) (x_move rfl (fr.ev rfl)) ?_
    clear fr a; intro a fr
    refine fx_val (v := .bool (decide ((l.getD k msg0).dst = node))) fr rfl rfl (by first | decide | simp) (x_eql rfl (fr.ev rfl) (fr.ev rfl) rfl) ?_
    clear fr a; intro a fr
    refine wpList_nil ?_
    refine fx_next ?_
    refine fx_cond fr rfl (fun hc12 => ?_) (fun hc12 => ?_)
    · skip
      have hc12 := of_decide_eq_true hc12
      refine wp_region_lit ?_  -- region 6
      refine fx_val (v := .slice S os.length sc) fr rfl rfl (by first | decide | simp) (x_move rfl (fr.ev rfl)) ?_
      clear fr a; intro a fr
      refine fx_val (v := .pointer (some ⟨b1, 1, none⟩)) fr rfl rfl (by first | decide | simp) (x_fieldAddr fo49_1 rfl (fr.ev rfl) rfl) ?_
      clear fr a; intro a fr
      refine fx_val (v := .slice A l.length cap) fr rfl rfl (by first | decide | simp) (x_load1 pl38 rfl (fr.ev rfl) (B4.cell 1 rfl)) ?_
      clear fr a; intro a fr
      refine fx_val (v := .int .i64 ((k : Nat) : Int)) fr rfl rfl (by first | decide | simp) (x_move rfl (fr.ev rfl)) ?_
      clear fr a; intro a fr
      refine fx_val (v := .pointer (some ⟨g9, o10 + k * 20, none⟩)) fr rfl rfl (by first | decide | simp) (x_indexV Try.underlying38 sz26 rfl (fr.ev rfl) hA11 (fr.ev rfl) (by omega) rfl) ?_
      clear fr a; intro a fr
      refine fx_val (v := .agg (msgE.arr (l.getD k msg0))) fr rfl rfl (by first | decide | simp) (x_loadE (E := msgE) ag26 rfl rfl (fr.ev rfl) ((hV).elem hA11 k msg0 (by omega))) ?_
      clear fr a; intro a fr
      refine fx_build1 (E := msgE) (p := (l.getD k msg0)) el38 (by decide) fr rfl rfl (by decide) rfl (fr.ev rfl) ?_
      clear fr a
      intro A13 w14 hN15 O16 hA17 a fr
      have ap2_A_A13 : Apart2 A A13 := (new_apart2 hA17 fun _ hg => hV.lt hg).symm
      have ap_A13_b1 : Apart A13 b1 := new_apart hA17 B4.lt
      have ap2_S_A13 : Apart2 S A13 := (new_apart2 hA17 fun _ hg => Oo.lt hg).symm
      have gA_A13 := gA_new hF hA17
      replace hV := hV.new hN15
      replace B4 := B4.new hN15
      replace Oo := Oo.new hN15
      replace hF := hF.trNew hN15
      refine fx_append (E := msgE) (l := os) (l' := [(l.getD k msg0)]) el38 fr rfl rfl (by decide) rfl (fr.ev rfl) (fr.ev rfl) (by first | rfl | (simp; done) | (simp; omega)) (by first | rfl | (simp; done) | (simp; omega)) Oo O16.view (by first | omega | (simp; omega)) (by unfold maxLen; first | omega | (simp; omega)) ?_
      clear fr a
      intro A18 cap19 w20 O21 hO22 mv23 a fr
      have ap2_A18_A : Apart2 A18 A := moved_apart2 mv23 ap2_A_S.symm fun _ hg => hV.lt hg
      have ap_A18_b1 : Apart A18 b1 := moved_apart mv23 ap_S_b1 B4.lt
      have ap2_A18_A13 : Apart2 A18 A13 := moved_apart2 mv23 ap2_S_A13 fun _ hg => O16.lt hg
      have gA_A18 := gA_moved hF mv23 gA_S
      replace hV := hV.only hO22 (fun g h1 h2 => ap2_A_S g h1 h2)
      replace B4 := B4.only hO22 ap_S_b1
      replace O16 := O16.only hO22 (fun g h1 h2 => ap2_S_A13.symm g h1 h2)
      replace hF := hF.locA hO22 gA_S
      clear Oo
      refine fx_val (v := .slice A18 ((os ++ ([(l.getD k msg0)])).length) cap19) fr rfl rfl (by first | decide | simp) (x_assign rfl (fr.ev rfl)) ?_
      clear fr a; intro a fr
      refine wpList_nil ?_
      refine fx_blk ?_
      refine fx_next ?_
      refine wp_region_lit ?_  -- region 4
      refine fx_val (v := .int .i64 ((k : Nat) : Int)) fr rfl rfl (by first | decide | simp) (x_move rfl (fr.ev rfl)) ?_
      clear fr a; intro a fr
      refine fx_val (v := .int .i64 ((k + 1 : Nat) : Int)) fr rfl rfl (by first | decide | simp) (x_add rfl (fr.ev rfl) rfl (i64w (r := ((k + 1 : Nat) : Int)) (by omega) (by omega))) ?_
      clear fr a; intro a fr
      refine fx_val (v := .int .i64 ((k + 1 : Nat) : Int)) fr rfl rfl (by first | decide | simp) (x_assign rfl (fr.ev rfl)) ?_
      clear fr a; intro a fr
      refine wpList_nil ?_
      refine fx_next ?_
      exact ⟨_, by omega, (k + 1), A18, cap19, (os ++ ([(l.getD k msg0)])), rfl, fr.sub ⟨rfl, rfl, rfl, rfl, trivial⟩, hF, hV, B4, O21, by omega, by rw [sel_yes (by omega) hc12, ← hos], by simp; omega, ap2_A18_A.symm, ap_A18_b1, gA_A18⟩
    · skip
      have hc12 := of_decide_eq_false hc12
      refine wp_skip ?_
      refine fx_blk ?_
      refine fx_next ?_
      refine wp_region_lit ?_  -- region 4
      refine fx_val (v := .int .i64 ((k : Nat) : Int)) fr rfl rfl (by first | decide | simp) (x_move rfl (fr.ev rfl)) ?_
      clear fr a; intro a fr
      refine fx_val (v := .int .i64 ((k + 1 : Nat) : Int)) fr rfl rfl (by first | decide | simp) (x_add rfl (fr.ev rfl) rfl (i64w (r := ((k + 1 : Nat) : Int)) (by omega) (by omega))) ?_
      clear fr a; intro a fr
      refine fx_val (v := .int .i64 ((k + 1 : Nat) : Int)) fr rfl rfl (by first | decide | simp) (x_assign rfl (fr.ev rfl)) ?_
      clear fr a; intro a fr
      refine wpList_nil ?_
      refine fx_next ?_
      exact ⟨_, by omega, (k + 1), S, sc, os, rfl, fr.sub ⟨rfl, rfl, rfl, rfl, trivial⟩, hF, hV, B4, Oo, by omega, by rw [sel_no (by omega) hc12, ← hos], by omega, ap2_A_S, ap_S_b1, gA_S⟩
  · skip
    have hc8 := of_decide_eq_false hc8
    refine wp_exit ?_
    refine fx_xt ?_
    refine fx_xt ?_
    refine fx_xx ?_
    refine fx_next ?_
    refine wp_seq ?_
    refine wp_region_lit ?_  -- region 7
    refine fx_val (v := .slice S os.length sc) fr rfl rfl (by first | decide | simp) (x_move rfl (fr.ev rfl)) ?_
    clear fr a; intro a fr
    refine fx_val (v := .slice S os.length sc) fr rfl rfl (by first | decide | simp) (x_assign rfl (fr.ev rfl)) ?_
    clear fr a; intro a fr
    refine wpList_nil ?_
    refine fx_next ?_
    refine wp_ret ?_
    refine fx_ret fr [.tmp 4] [.slice S os.length sc] rfl ⟨rfl, trivial⟩ rfl ?_
    obtain rfl : k = l.length := by omega
    rw [sel_end] at hos
    subst hos
    exact ⟨_, rfl, S, sc, rfl, Oo, fun g hg => (gA_S g hg).resolve_left id, hF⟩
end Go.Proofs.Ytdpkeabmfhnfiaa
