/-
  All, Equal, and the document's Same, head, Push. Printed by gen_e.py.
-/
import Derived.Test.YtemihglffmfikaaBufD
namespace Go.Proofs.Ytemihglffmfikaa
open Go.RowKit

set_option maxRecDepth 100000 in
set_option maxHeartbeats 4000000 in
theorem all_c {w : World} {b : Nat} {l : List VSt} (H : BufAt w b l) : Calls Try.prog 19 #[.pointer (some ⟨b, 0, none⟩)] w (Ret fun v w' => ∃ A' cap', v = .slice A' (vals l).length cap' ∧ Own stE w' A' cap' (vals l) ∧ (∀ g, inA A' g → w.heap.size ≤ g) ∧ New w w') := by
  have hF := Only.refl (fun _ => False) w
  refine fx_enterM Try.func19 rfl (N := (16, [])) (T := [(0, .pointer (some ⟨b, 0, none⟩))]) rfl (show 1 ≤ 16 by decide) ⟨rfl, trivial⟩ fun a fr => ?_
  refine wp_seq ?_
  refine wp_region_lit ?_  -- region 0
  refine fx_val (v := .slice none 0 0) fr rfl rfl (by first | decide | simp) (x_assign rfl rfl) ?_
  clear fr a; intro a fr
  refine wpList_nil ?_
  refine fx_next ?_
  refine wp_seq ?_
  refine wp_region_lit ?_  -- region 1
  refine fx_new fr rfl rfl (by first | decide | simp) (x_alloc (z := .slice none 0 0) (cs := #[.slice none 0 0]) rfl (by kernel_rfl) rfl) ?_
  clear fr a
  intro b1 w2 hN3 B4 hb5 a fr
  have ne_b_b1 : NE b b1 := NE.mk (Nat.lt_of_lt_of_le H.lt hb5)
  have g_b1 := Nat.le_trans hF.size hb5
  replace H := H.new hN3
  replace hF := hF.trNew hN3
  refine wpList_nil ?_
  refine fx_next ?_
  refine wp_seq ?_
  refine wp_seq ?_
  refine wp_region_lit ?_  -- region 2
  refine fx_val (v := .pointer (some ⟨b, 0, none⟩)) fr rfl rfl (by first | decide | simp) (x_move rfl (fr.ev rfl)) ?_
  clear fr a; intro a fr
  refine fx_call fr rfl rfl (by first | decide | simp) (x_call (vs := [.pointer (some ⟨b, 0, none⟩)]) rfl rfl ⟨(fr.ev rfl), trivial⟩ Try.func28 nm28 rfl) (back_c _) ?_
  clear fr a
  rintro v w9 ⟨bn6, rfl, Bn7, hb8, hN10⟩ a fr
  have ne_b_bn6 : NE b bn6 := NE.mk (Nat.lt_of_lt_of_le H.lt hb8)
  have ne_b1_bn6 : NE b1 bn6 := NE.mk (Nat.lt_of_lt_of_le B4.lt hb8)
  have g_bn6 := Nat.le_trans hF.size hb8
  replace H := H.new hN10
  replace B4 := B4.new hN10
  replace hF := hF.trNew hN10
  refine wpList_nil ?_
  refine fx_next ?_
  refine wp_block ?_
  have lt_b1 := B4.lt
  refine fx_range (xs := l.reverse) (e := fun x : VSt => Value.agg (stE.arr x.1)) fr rfl (by decide) (enters_of Try.func37 nm37 rfl) (SI := fun k => k = b1 ∨ w9.heap.size ≤ k) (fun _ h => .inr h) (all_stops H Bn7 (fun h => h.elim (by first | exact ne_bn6_b1 | exact ne_b1_bn6.symm | (show ¬ bn6 = b1; omega)) (fun h => by have := Bn7.lt; omega)) (fun h => h.elim (by first | exact ne_b_b1 | exact ne_b1_b.symm | (show ¬ b = b1; omega)) (fun h => by have := H.lt; omega))) (fun pre W => ∃ A : Option Addr, ∃ cap : Nat, Blk W b1 32 #[.slice A ((vals pre).length) cap] ∧ Own stE W A cap (vals pre) ∧ Only (fun k => k = b1) w9 W ∧ ∀ g, inA A g → w9.heap.size ≤ g) (fun c pre W => False) (fun x a' W => ∃ b11 : Nat, Blk W b11 60 (wE.arr x.1) ∧ w9.heap.size ≤ b11 ∧ Fr (16, []) [(0, .pointer (some ⟨b, 0, none⟩)), (2, .slice none 0 0), (3, .pointer (some ⟨b1, 0, none⟩)), (5, .pointer (some ⟨b, 0, none⟩)), (6, .func (.func 37) #[] #[.pointer (some ⟨bn6, 0, none⟩)]), (7, .agg (wE.arr x.1)), (4, .pointer (some ⟨b11, 0, none⟩))] a') ?_ ?_ ?_ ?_ ⟨none, 0, B4, Own.nil, Only.refl _ _, (fun g hg => absurd hg (apart_none g))⟩ ?_ ?_ ?_ ?_
  · rintro pre W W' ⟨A, cap, Bo, Oc, hC, hg_A⟩ hT; exact ⟨A, cap, Bo.turn hT, Oc.turn hT, hC.turn hT (Nat.le_refl _), hg_A⟩
  · exact fun _ _ _ _ h _ => h.elim
  · rintro x a' _ W W' ⟨b11, B14, h_b11, hf⟩ hT; exact ⟨b11, B14.turn hT, h_b11, hf⟩
  · rintro pre W W' ⟨A, cap, Bo, Oc, hC, hg_A⟩ hN; exact ⟨A, cap, Bo.new hN, Oc.new hN, hC.trNew hN, hg_A⟩
  · skip
    rintro l pre x W K ⟨A, cap, Bo, Oc, hC, hg_A⟩ hK a fr
    have hF := Only.refl (fun _ => False) W
    refine fxr_region (by kernel_rfl) (by rintro ⟨_, _, h⟩; exact h) ?_  -- region 3
    refine fx_new fr rfl rfl (by first | decide | simp) (x_alloc (z := .agg (#[.int .u32 0, .int .i64 0, .int .u32 0])) (cs := wE.arr st0) rfl (by kernel_rfl) rfl) ?_
    clear fr a
    intro b11 w12 hN13 B14 hb15 a fr
    have g_b11 := Nat.le_trans hF.size hb15
    replace hF := hF.trNew hN13
    refine fx_storeS sz60 rfl rfl rfl (fr.ev rfl) (fr.ev rfl) (wE.all _) B14 (wE.size _) (wE.size _) fun w16 hO17 hBq => ?_
    replace hF := hF.loc hO17 (.inr g_b11)
    replace B14 := hBq
    clear hBq
    refine wpList_nil ?_
    refine hK _ _ hF ⟨b11, B14, Nat.le_trans hC.size g_b11, fr.sub ⟨rfl, rfl, rfl, rfl, rfl, rfl, rfl, trivial⟩⟩
  · skip
    rintro lq pre x a W ⟨A, cap, Bo, Oc, hC, hg_A⟩ ⟨b11, B14, h_b11, fr⟩ hlen
    have ne_b1_b11 : NE b1 b11 := NE.mk (Nat.lt_of_lt_of_le lt_b1 h_b11)
    have ap_A_b1 : Apart A b1 := fun h => by have := hg_A _ h; omega
    have cl_b1 := Bo.cells
    have cl_A := fun g (hg : inA A g) => Oc.cells hg
    have hF := Only.refl (fun k => k = b1 ∨ inA A k) W
    have gA_A : ∀ g, inA A g → (fun k => k = b1 ∨ inA A k) g ∨ W.heap.size ≤ g := fun g hg => .inl (Or.inr (hg))
    have hcl : ∀ k, k < W.heap.size → (fun k => k = b1 ∨ inA A k) k → (fun k => k = b1 ∨ w9.heap.size ≤ k) k ∧ ∃ o : Obj, W.heap[k]? = some o ∧ o.isCells = true := by
      rintro k _ (rfl | hs)
      · exact ⟨Or.inl rfl, cl_b1⟩
      · exact ⟨Or.inr (hg_A k hs), cl_A k hs⟩
    have hSS : ∀ k, k < w9.heap.size → (fun k => k = b1 ∨ inA A k) k → (fun k => k = b1) k := by
      rintro k hk (rfl | hs)
      · exact rfl
      · have := hg_A k hs; omega
    have hvl := vals_len pre
    have hlr : pre.length < l.length := by simpa using hlen
    have hml := H.len
    refine wpIn_block ?_
    refine fxr_region (by kernel_rfl) (by rintro ⟨_, _, h⟩; exact h) ?_  -- region 4
    refine fx_val (v := .slice A ((vals pre).length) cap) fr rfl rfl (by first | decide | simp) (x_load1 pl32 rfl (fr.ev rfl) (Bo.cell 0 rfl)) ?_
    clear fr a; intro a fr
    refine fx_val (v := .pointer (some ⟨b11, 0, none⟩)) fr rfl rfl (by first | decide | simp) (x_fieldAddr fo60_0 rfl (fr.ev rfl) rfl) ?_
    clear fr a; intro a fr
    refine fx_val (v := .agg (stE.arr x.1)) fr rfl rfl (by first | decide | simp) (x_loadE (E := stE) ag24 rfl rfl (fr.ev rfl) (B14.rangeE (P := Try.prog) stE)) ?_
    clear fr a; intro a fr
    refine fx_build1 (E := stE) (p := x.1) el32 (by decide) fr rfl rfl (by decide) rfl (fr.ev rfl) ?_
    clear fr a
    intro A18 w19 hN20 O21 hA22 a fr
    have ap_A18_b1 : Apart A18 b1 := new_apart hA22 Bo.lt
    have ap2_A_A18 : Apart2 A A18 := (new_apart2 hA22 fun _ hg => Oc.lt hg).symm
    have ap_A18_b11 : Apart A18 b11 := new_apart hA22 B14.lt
    have gA_A18 := gA_new hF hA22
    replace Bo := Bo.new hN20
    replace Oc := Oc.new hN20
    replace B14 := B14.new hN20
    replace hF := hF.trNew hN20
    refine fx_append (E := stE) (l := vals pre) (l' := [x.1]) el32 fr rfl rfl (by decide) rfl (fr.ev rfl) (fr.ev rfl) (by first | rfl | (simp; done) | (simp; omega)) (by first | rfl | (simp; done) | (simp; omega)) Oc O21.view (by first | omega | (have hvl := vals_len pre; simp only [List.length_append, List.length_cons, List.length_nil, List.length_reverse] at *; omega)) (by unfold maxLen; first | omega | (simp; omega)) ?_
    clear fr a
    intro A23 cap24 w25 O26 hO27 mv28 a fr
    have ap_A23_b1 : Apart A23 b1 := moved_apart mv28 ap_A_b1 Bo.lt
    have ap2_A23_A18 : Apart2 A23 A18 := moved_apart2 mv28 ap2_A_A18 fun _ hg => O21.lt hg
    have gA_A23 := gA_moved hF mv28 gA_A
    replace Bo := Bo.only hO27 ap_A_b1
    replace O21 := O21.only hO27 (fun g h1 h2 => ap2_A_A18.symm g h1 h2)
    replace hF := hF.locA hO27 gA_A
    clear Oc
    refine fx_store1 sz32 rfl rfl rfl (fr.ev rfl) (fr.ev rfl) rfl Bo (show 0 < 1 by decide) (cs' := #[.slice A23 (((vals pre) ++ ([x.1])).length) cap24]) rfl fun w29 hO30 hBq => ?_
    replace O21 := O21.only hO30 (Apart.ne1 ap_A18_b1)
    replace O26 := O26.only hO30 (Apart.ne1 ap_A23_b1)
    replace hF := hF.loc hO30 (.inl (Or.inl rfl))
    replace Bo := hBq
    clear hBq
    refine wpList_nil ?_
    refine fx_blk ?_
    exact ⟨⟨_, hF, hcl⟩, A23, cap24, (by rw [vals_snoc]; exact Bo), (by rw [vals_snoc]; exact O26), hC.trans hF hSS, (fun g hg => (gA_A23 g hg).elim (fun h => by rcases h with rfl | hs; all_goals first | exact hg_A g hs | exact absurd hg (by first | exact ap_A23_b1 | (intro h; exact h))) (fun h => Nat.le_trans hC.size h))⟩
  · skip
    rintro D31 W1 hD ⟨A, cap, Bo, Oc, hC, hg_A⟩ hD_D31 a fr
    have g_D31 := Nat.le_trans hF.size hD
    have ap_A_b1 : Apart A b1 := fun h => by have := hg_A _ h; have := lt_b1; omega
    have ap_A_b : Apart A b := new_apart hg_A H.lt
    have ap_A_bn6 : Apart A bn6 := new_apart hg_A Bn7.lt
    have gA_A := gA_new hF hg_A
    replace H := H.only hC (by first | exact ne_b_b1 | exact ne_b1_b.symm | (show ¬ b = b1; omega))
    replace Bn7 := Bn7.only hC (by first | exact ne_bn6_b1 | exact ne_b1_bn6.symm | (show ¬ bn6 = b1; omega))
    replace hF := hF.loc hC (.inr g_b1)
    have ne_b_D31 := H.mark hD_D31
    have ne_bn6_D31 := Bn7.mark hD_D31
    have ne_b1_D31 := Bo.mark hD_D31
    have ap_A_D31 := Oc.mark hD_D31
    refine fx_blk ?_
    refine fx_next ?_
    refine wp_seq ?_
    refine wp_region_lit ?_  -- region 5
    refine fx_val (v := .slice A ((vals l.reverse).length) cap) fr rfl rfl (by first | decide | simp) (x_load1 pl32 rfl (fr.ev rfl) (Bo.cell 0 rfl)) ?_
    clear fr a; intro a fr
    refine fx_call fr rfl rfl (by first | decide | simp) (x_call (vs := [.slice A ((vals l.reverse).length) cap]) rfl rfl ⟨(fr.ev rfl), trivial⟩ Try.func35 nm35 rfl) (reverse_c Oc) ?_
    clear fr a
    rintro v w33 ⟨O32, hN34⟩ a fr
    replace H := H.only hN34 ap_A_b
    replace Bn7 := Bn7.only hN34 ap_A_bn6
    replace Bo := Bo.only hN34 ap_A_b1
    replace hD_D31 := hD_D31.only hN34 ap_A_D31
    replace hF := hF.locA hN34 gA_A
    replace Oc := O32
    clear O32
    refine wpList_nil ?_
    refine fx_next ?_
    refine wp_seq ?_
    refine wp_region_lit ?_  -- region 6
    refine fx_val (v := .slice A ((vals l.reverse).length) cap) fr rfl rfl (by first | decide | simp) (x_load1 pl32 rfl (fr.ev rfl) (Bo.cell 0 rfl)) ?_
    clear fr a; intro a fr
    refine fx_val (v := .slice A ((vals l.reverse).length) cap) fr rfl rfl (by first | decide | simp) (x_assign rfl (fr.ev rfl)) ?_
    clear fr a; intro a fr
    refine wpList_nil ?_
    refine fx_next ?_
    refine wp_ret ?_
    refine fx_retM1 fr g_D31 hD_D31 [.tmp 2] [.slice A ((vals l.reverse).length) cap] rfl rfl ?_
    intro wE hT
    replace H := H.turn hT
    replace Bn7 := Bn7.turn hT
    replace Bo := Bo.turn hT
    replace Oc := Oc.turn hT
    replace hF := hF.turn hT (Nat.le_refl _)
    refine ⟨⟨rfl, trivial⟩, ?_⟩
    rw [vals_rev, List.reverse_reverse] at Oc
    exact ⟨_, rfl, A, cap, congrArg (fun n => Value.slice A n cap) (by simp [vals_len]), Oc, fun g hg => (gA_A g hg).resolve_left id, hF⟩
  · skip
    exact fun _ _ _ _ _ _ h _ _ _ => h.elim
set_option maxRecDepth 100000 in
set_option maxHeartbeats 4000000 in
theorem all_nil (w : World) : Calls Try.prog 19 #[.pointer none] w (Ret fun v w' => ∃ A' cap', v = .slice A' 0 cap' ∧ New w w') := by
  have hF := Only.refl (fun _ => False) w
  refine fx_enterM Try.func19 rfl (N := (16, [])) (T := [(0, .pointer none)]) rfl (show 1 ≤ 16 by decide) ⟨rfl, trivial⟩ fun a fr => ?_
  refine wp_seq ?_
  refine wp_region_lit ?_  -- region 0
  refine fx_val (v := .slice none 0 0) fr rfl rfl (by first | decide | simp) (x_assign rfl rfl) ?_
  clear fr a; intro a fr
  refine wpList_nil ?_
  refine fx_next ?_
  refine wp_seq ?_
  refine wp_region_lit ?_  -- region 1
  refine fx_new fr rfl rfl (by first | decide | simp) (x_alloc (z := .slice none 0 0) (cs := #[.slice none 0 0]) rfl (by kernel_rfl) rfl) ?_
  clear fr a
  intro b1 w2 hN3 B4 hb5 a fr
  have g_b1 := Nat.le_trans hF.size hb5
  replace hF := hF.trNew hN3
  refine wpList_nil ?_
  refine fx_next ?_
  refine wp_seq ?_
  refine wp_seq ?_
  refine wp_region_lit ?_  -- region 2
  refine fx_val (v := .pointer none) fr rfl rfl (by first | decide | simp) (x_move rfl (fr.ev rfl)) ?_
  clear fr a; intro a fr
  refine fx_call fr rfl rfl (by first | decide | simp) (x_call (vs := [.pointer none]) rfl rfl ⟨(fr.ev rfl), trivial⟩ Try.func28 nm28 rfl) (back_nil _) ?_
  clear fr a
  rintro v w9 ⟨bn6, rfl, Bn7, hb8, hN10⟩ a fr
  have ne_b1_bn6 : NE b1 bn6 := NE.mk (Nat.lt_of_lt_of_le B4.lt hb8)
  have g_bn6 := Nat.le_trans hF.size hb8
  replace B4 := B4.new hN10
  replace hF := hF.trNew hN10
  refine wpList_nil ?_
  refine fx_next ?_
  refine wp_block ?_
  have lt_b1 := B4.lt
  refine fx_range (xs := ([] : List VSt)) (e := fun x : VSt => Value.agg (stE.arr x.1)) fr rfl (by decide) (enters_of Try.func37 nm37 rfl) (SI := fun k => k = b1 ∨ w9.heap.size ≤ k) (fun _ h => .inr h) (all_stops_nil Bn7) (fun pre W => ∃ A : Option Addr, ∃ cap : Nat, Blk W b1 32 #[.slice A ((vals pre).length) cap] ∧ Own stE W A cap (vals pre) ∧ Only (fun k => k = b1) w9 W ∧ ∀ g, inA A g → w9.heap.size ≤ g) (fun c pre W => False) (fun x a' W => ∃ b11 : Nat, Blk W b11 60 (wE.arr x.1) ∧ w9.heap.size ≤ b11 ∧ Fr (16, []) [(0, .pointer none), (2, .slice none 0 0), (3, .pointer (some ⟨b1, 0, none⟩)), (5, .pointer none), (6, .func (.func 37) #[] #[.pointer (some ⟨bn6, 0, none⟩)]), (7, .agg (wE.arr x.1)), (4, .pointer (some ⟨b11, 0, none⟩))] a') ?_ ?_ ?_ ?_ ⟨none, 0, B4, Own.nil, Only.refl _ _, (fun g hg => absurd hg (apart_none g))⟩ ?_ ?_ ?_ ?_
  · rintro pre W W' ⟨A, cap, Bo, Oc, hC, hg_A⟩ hT; exact ⟨A, cap, Bo.turn hT, Oc.turn hT, hC.turn hT (Nat.le_refl _), hg_A⟩
  · exact fun _ _ _ _ h _ => h.elim
  · rintro x a' _ W W' ⟨b11, B14, h_b11, hf⟩ hT; exact ⟨b11, B14.turn hT, h_b11, hf⟩
  · rintro pre W W' ⟨A, cap, Bo, Oc, hC, hg_A⟩ hN; exact ⟨A, cap, Bo.new hN, Oc.new hN, hC.trNew hN, hg_A⟩
  · skip
    rintro l pre x W K ⟨A, cap, Bo, Oc, hC, hg_A⟩ hK a fr
    have hF := Only.refl (fun _ => False) W
    refine fxr_region (by kernel_rfl) (by rintro ⟨_, _, h⟩; exact h) ?_  -- region 3
    refine fx_new fr rfl rfl (by first | decide | simp) (x_alloc (z := .agg (#[.int .u32 0, .int .i64 0, .int .u32 0])) (cs := wE.arr st0) rfl (by kernel_rfl) rfl) ?_
    clear fr a
    intro b11 w12 hN13 B14 hb15 a fr
    have g_b11 := Nat.le_trans hF.size hb15
    replace hF := hF.trNew hN13
    refine fx_storeS sz60 rfl rfl rfl (fr.ev rfl) (fr.ev rfl) (wE.all _) B14 (wE.size _) (wE.size _) fun w16 hO17 hBq => ?_
    replace hF := hF.loc hO17 (.inr g_b11)
    replace B14 := hBq
    clear hBq
    refine wpList_nil ?_
    refine hK _ _ hF ⟨b11, B14, Nat.le_trans hC.size g_b11, fr.sub ⟨rfl, rfl, rfl, rfl, rfl, rfl, rfl, trivial⟩⟩
  · skip
    rintro lq pre x a W ⟨A, cap, Bo, Oc, hC, hg_A⟩ ⟨b11, B14, h_b11, fr⟩ hlen
    have ne_b1_b11 : NE b1 b11 := NE.mk (Nat.lt_of_lt_of_le lt_b1 h_b11)
    have ap_A_b1 : Apart A b1 := fun h => by have := hg_A _ h; omega
    have cl_b1 := Bo.cells
    have cl_A := fun g (hg : inA A g) => Oc.cells hg
    have hF := Only.refl (fun k => k = b1 ∨ inA A k) W
    have gA_A : ∀ g, inA A g → (fun k => k = b1 ∨ inA A k) g ∨ W.heap.size ≤ g := fun g hg => .inl (Or.inr (hg))
    have hcl : ∀ k, k < W.heap.size → (fun k => k = b1 ∨ inA A k) k → (fun k => k = b1 ∨ w9.heap.size ≤ k) k ∧ ∃ o : Obj, W.heap[k]? = some o ∧ o.isCells = true := by
      rintro k _ (rfl | hs)
      · exact ⟨Or.inl rfl, cl_b1⟩
      · exact ⟨Or.inr (hg_A k hs), cl_A k hs⟩
    have hSS : ∀ k, k < w9.heap.size → (fun k => k = b1 ∨ inA A k) k → (fun k => k = b1) k := by
      rintro k hk (rfl | hs)
      · exact rfl
      · have := hg_A k hs; omega
    have hvl := vals_len pre
    exact absurd hlen (by simp)
  · skip
    rintro D18 W1 hD ⟨A, cap, Bo, Oc, hC, hg_A⟩ hD_D18 a fr
    have g_D18 := Nat.le_trans hF.size hD
    have ap_A_b1 : Apart A b1 := fun h => by have := hg_A _ h; have := lt_b1; omega
    have ap_A_bn6 : Apart A bn6 := new_apart hg_A Bn7.lt
    have gA_A := gA_new hF hg_A
    replace Bn7 := Bn7.only hC (by first | exact ne_bn6_b1 | exact ne_b1_bn6.symm | (show ¬ bn6 = b1; omega))
    replace hF := hF.loc hC (.inr g_b1)
    have ne_bn6_D18 := Bn7.mark hD_D18
    have ne_b1_D18 := Bo.mark hD_D18
    have ap_A_D18 := Oc.mark hD_D18
    refine fx_blk ?_
    refine fx_next ?_
    refine wp_seq ?_
    refine wp_region_lit ?_  -- region 5
    refine fx_val (v := .slice A ((vals ([] : List VSt)).length) cap) fr rfl rfl (by first | decide | simp) (x_load1 pl32 rfl (fr.ev rfl) (Bo.cell 0 rfl)) ?_
    clear fr a; intro a fr
    refine fx_call fr rfl rfl (by first | decide | simp) (x_call (vs := [.slice A ((vals ([] : List VSt)).length) cap]) rfl rfl ⟨(fr.ev rfl), trivial⟩ Try.func35 nm35 rfl) (reverse_c Oc) ?_
    clear fr a
    rintro v w20 ⟨O19, hN21⟩ a fr
    replace Bn7 := Bn7.only hN21 ap_A_bn6
    replace Bo := Bo.only hN21 ap_A_b1
    replace hD_D18 := hD_D18.only hN21 ap_A_D18
    replace hF := hF.locA hN21 gA_A
    replace Oc := O19
    clear O19
    refine wpList_nil ?_
    refine fx_next ?_
    refine wp_seq ?_
    refine wp_region_lit ?_  -- region 6
    refine fx_val (v := .slice A ((vals ([] : List VSt)).length) cap) fr rfl rfl (by first | decide | simp) (x_load1 pl32 rfl (fr.ev rfl) (Bo.cell 0 rfl)) ?_
    clear fr a; intro a fr
    refine fx_val (v := .slice A ((vals ([] : List VSt)).length) cap) fr rfl rfl (by first | decide | simp) (x_assign rfl (fr.ev rfl)) ?_
    clear fr a; intro a fr
    refine wpList_nil ?_
    refine fx_next ?_
    refine wp_ret ?_
    refine fx_retM1 fr g_D18 hD_D18 [.tmp 2] [.slice A ((vals ([] : List VSt)).length) cap] rfl rfl ?_
    intro wE hT
    replace Bn7 := Bn7.turn hT
    replace Bo := Bo.turn hT
    replace Oc := Oc.turn hT
    replace hF := hF.turn hT (Nat.le_refl _)
    refine ⟨⟨rfl, trivial⟩, ?_⟩
    exact ⟨_, rfl, A, cap, rfl, hF⟩
  · skip
    exact fun _ _ _ _ _ _ h _ _ _ => h.elim
set_option maxRecDepth 100000 in
set_option maxHeartbeats 4000000 in
theorem rsame_c {w : World} {A B : Option Addr} {ca cb : Nat} {la lb : List St} (hV : View stE w A ca la) (hW : View stE w B cb lb) : Calls Try.prog 24 #[.slice A la.length ca, .slice B lb.length cb] w (Ret fun v w' => v = .bool (decide (la = lb)) ∧ New w w') := by
  have hVl := hV.len
  have hWl := hW.len
  unfold maxLen at hVl hWl
  have hF := Only.refl (fun _ => False) w
  refine fx_enter Try.func24 rfl (N := (26, [])) (T := [(0, .slice A la.length ca), (1, .slice B lb.length cb)]) rfl (show 2 ≤ 26 by decide) ⟨rfl, rfl, trivial⟩ fun a fr => ?_
  refine wp_seq ?_
  refine wp_region_lit ?_  -- region 0
  refine fx_val (v := .bool false) fr rfl rfl (by first | decide | simp) (x_assign rfl rfl) ?_
  clear fr a; intro a fr
  refine wpList_nil ?_
  refine fx_next ?_
  refine wp_seq ?_
  refine wp_seq ?_
  refine wp_region_lit ?_  -- region 1
  refine fx_val (v := .slice A la.length ca) fr rfl rfl (by first | decide | simp) (x_move rfl (fr.ev rfl)) ?_
  clear fr a; intro a fr
  refine fx_val (v := .int .i64 ((la.length : Nat) : Int)) fr rfl rfl (by first | decide | simp) (x_len Try.underlying32 rfl (fr.ev rfl)) ?_
  clear fr a; intro a fr
  refine fx_val (v := .slice B lb.length cb) fr rfl rfl (by first | decide | simp) (x_move rfl (fr.ev rfl)) ?_
  clear fr a; intro a fr
  refine fx_val (v := .int .i64 ((lb.length : Nat) : Int)) fr rfl rfl (by first | decide | simp) (x_len Try.underlying32 rfl (fr.ev rfl)) ?_
  clear fr a; intro a fr
  refine fx_val (v := .bool (decide (((la.length : Nat) : Int) ≠ ((lb.length : Nat) : Int)))) fr rfl rfl (by first | decide | simp) (x_neq rfl (fr.ev rfl) (fr.ev rfl) rfl) ?_
  clear fr a; intro a fr
  refine wpList_nil ?_
  refine fx_next ?_
  refine fx_cond fr rfl (fun hc1 => ?_) (fun hc1 => ?_)
  · skip
    have hc1 := of_decide_eq_true hc1
    refine wp_seq ?_
    refine wp_region_lit ?_  -- region 2
    refine fx_val (v := .bool false) fr rfl rfl (by first | decide | simp) (x_assign rfl rfl) ?_
    clear fr a; intro a fr
    refine wpList_nil ?_
    refine fx_next ?_
    refine wp_ret ?_
    refine fx_rt ?_
    refine fx_ret fr [.tmp 4] [.bool false] rfl ⟨rfl, trivial⟩ rfl ?_
    exact ⟨_, rfl, congrArg Value.bool (decide_eq_false fun he => hc1 (by rw [he])).symm, hF⟩
  · skip
    have hc1 := of_decide_eq_false hc1
    refine wp_skip ?_
    refine fx_next ?_
    refine wp_seq ?_
    refine wp_seq ?_
    refine wp_region_lit ?_  -- region 3
    refine fx_val (v := .int .i64 0) fr rfl rfl (by first | decide | simp) (x_assign rfl rfl) ?_
    clear fr a; intro a fr
    refine wpList_nil ?_
    refine fx_next ?_
    refine wp_block ?_
    refine fx_loop (fun nM a wL => ∃ i : Nat, nM = la.length - i ∧ Fr (26, []) [(0, .slice A la.length ca), (1, .slice B lb.length cb), (5, .int .i64 ((i : Nat) : Int)), (4, .bool false)] a ∧ Only (fun _ => False) w wL ∧ View stE wL A ca la ∧ View stE wL B cb lb ∧ i ≤ la.length ∧ ∀ j, j < i → la.getD j st0 = lb.getD j st0) (n0 := _) ⟨0, rfl, fr.sub ⟨rfl, rfl, rfl, rfl, trivial⟩, hF, hV, hW, by omega, fun j hj => absurd hj (by omega)⟩ ?_
    rintro n3 a w2 ⟨i, rfl, fr, hF, hV, hW, hi, hall⟩
    refine wp_seq ?_
    refine wp_seq ?_
    refine wp_region_lit ?_  -- region 4
    refine fx_val (v := .int .i64 ((i : Nat) : Int)) fr rfl rfl (by first | decide | simp) (x_move rfl (fr.ev rfl)) ?_
    clear fr a; intro a fr
    refine fx_val (v := .slice A la.length ca) fr rfl rfl (by first | decide | simp) (x_move rfl (fr.ev rfl)) ?_
    clear fr a; intro a fr
    refine fx_val (v := .int .i64 ((la.length : Nat) : Int)) fr rfl rfl (by first | decide | simp) (x_len Try.underlying32 rfl (fr.ev rfl)) ?_
    clear fr a; intro a fr
    refine fx_val (v := .bool (decide (((i : Nat) : Int) < ((la.length : Nat) : Int)))) fr rfl rfl (by first | decide | simp) (x_lss rfl (fr.ev rfl) (fr.ev rfl) rfl) ?_
    clear fr a; intro a fr
    refine wpList_nil ?_
    refine fx_next ?_
    refine fx_cond fr rfl (fun hc4 => ?_) (fun hc4 => ?_)
    · skip
      have hc4 := of_decide_eq_true hc4
      refine wp_skip ?_
      refine fx_next ?_
      refine wp_seq ?_
      refine wp_block ?_
      refine wp_seq ?_
      refine fx_held (n := 9) (fun w => View stE w A ca la ∧ View stE w B cb lb ∧ True) (by kernel_rfl) rfl ?_  -- region 6
      intro w5 hN6
      replace hV := hV.new hN6
      replace hW := hW.new hN6
      replace hF := hF.trNew hN6
      refine fx_take (i := 0) (v := .slice A la.length ca) fr rfl (by kernel_rfl) rfl rfl (by first | decide | simp) (fun _ _ _ h => h) (fun _ ⟨hV, hW, _⟩ => x_move rfl (fr.ev rfl)) ⟨hV, hW, trivial⟩ ?_
      clear fr a; intro a fr
      refine fx_take (i := 1) (v := .int .i64 ((i : Nat) : Int)) fr rfl (by kernel_rfl) rfl rfl (by first | decide | simp) (fun _ _ _ h => h) (fun _ ⟨hV, hW, _⟩ => x_move rfl (fr.ev rfl)) ⟨hV, hW, trivial⟩ ?_
      clear fr a; intro a fr
      obtain ⟨g7, o8, hA9⟩ := (hV).some_ (by omega)
      refine fx_take (i := 2) (v := .pointer (some ⟨g7, o8 + i * 3, none⟩)) fr rfl (by kernel_rfl) rfl rfl (by first | decide | simp) (fun _ _ _ h => h) (fun _ ⟨hV, hW, _⟩ => x_indexV Try.underlying32 sz24 rfl (fr.ev rfl) hA9 (fr.ev rfl) (by omega) rfl) ⟨hV, hW, trivial⟩ ?_
      clear fr a; intro a fr
      refine fx_take (i := 3) (v := .agg (stE.arr (la.getD i st0))) fr rfl (by kernel_rfl) rfl rfl (by first | decide | simp) (fun _ _ _ h => h) (fun _ ⟨hV, hW, _⟩ => x_loadE (E := stE) ag24 rfl rfl (fr.ev rfl) ((hV).elem hA9 i st0 (by omega))) ⟨hV, hW, trivial⟩ ?_
      clear fr a; intro a fr
      refine fx_take (i := 4) (v := .slice B lb.length cb) fr rfl (by kernel_rfl) rfl rfl (by first | decide | simp) (fun _ _ _ h => h) (fun _ ⟨hV, hW, _⟩ => x_move rfl (fr.ev rfl)) ⟨hV, hW, trivial⟩ ?_
      clear fr a; intro a fr
      refine fx_take (i := 5) (v := .int .i64 ((i : Nat) : Int)) fr rfl (by kernel_rfl) rfl rfl (by first | decide | simp) (fun _ _ _ h => h) (fun _ ⟨hV, hW, _⟩ => x_move rfl (fr.ev rfl)) ⟨hV, hW, trivial⟩ ?_
      clear fr a; intro a fr
      obtain ⟨g10, o11, hA12⟩ := (hW).some_ (by omega)
      refine fx_take (i := 6) (v := .pointer (some ⟨g10, o11 + i * 3, none⟩)) fr rfl (by kernel_rfl) rfl rfl (by first | decide | simp) (fun _ _ _ h => h) (fun _ ⟨hV, hW, _⟩ => x_indexV Try.underlying32 sz24 rfl (fr.ev rfl) hA12 (fr.ev rfl) (by omega) rfl) ⟨hV, hW, trivial⟩ ?_
      clear fr a; intro a fr
      refine fx_take (i := 7) (v := .agg (stE.arr (lb.getD i st0))) fr rfl (by kernel_rfl) rfl rfl (by first | decide | simp) (fun _ _ _ h => h) (fun _ ⟨hV, hW, _⟩ => x_loadE (E := stE) ag24 rfl rfl (fr.ev rfl) ((hW).elem hA12 i st0 (by omega))) ⟨hV, hW, trivial⟩ ?_
      clear fr a; intro a fr
      refine fx_take (i := 8) (v := .bool (!decide ((la.getD i st0) = (lb.getD i st0)))) fr rfl (by kernel_rfl) rfl rfl (by first | decide | simp) (fun _ _ _ h => h) (fun _ ⟨hV, hW, _⟩ => x_neE stER rfl rfl (fr.ev rfl) (fr.ev rfl) rfl) ⟨hV, hW, trivial⟩ ?_
      clear fr a; intro a fr
      refine fx_hdone (by kernel_rfl) ?_
      refine fx_next ?_
      refine fx_cond fr rfl (fun hc13 => ?_) (fun hc13 => ?_)
      · skip
        refine wp_seq ?_
        refine wp_region_lit ?_  -- region 7
        refine fx_val (v := .bool false) fr rfl rfl (by first | decide | simp) (x_assign rfl rfl) ?_
        clear fr a; intro a fr
        refine wpList_nil ?_
        refine fx_next ?_
        refine wp_ret ?_
        refine fx_rb ?_
        refine fx_rt ?_
        refine fx_rt ?_
        refine fx_rb ?_
        refine fx_rt ?_
        refine fx_ret fr [.tmp 4] [.bool false] rfl ⟨rfl, trivial⟩ rfl ?_
        exact ⟨_, rfl, congrArg Value.bool (decide_eq_false fun he => by rw [he] at hc13; simp at hc13).symm, hF⟩
      · skip
        refine wp_skip ?_
        refine fx_blk ?_
        refine fx_next ?_
        refine wp_region_lit ?_  -- region 5
        refine fx_val (v := .int .i64 ((i : Nat) : Int)) fr rfl rfl (by first | decide | simp) (x_move rfl (fr.ev rfl)) ?_
        clear fr a; intro a fr
        refine fx_val (v := .int .i64 ((i + 1 : Nat) : Int)) fr rfl rfl (by first | decide | simp) (x_add rfl (fr.ev rfl) rfl (i64w (r := ((i + 1 : Nat) : Int)) (by omega) (by omega))) ?_
        clear fr a; intro a fr
        refine fx_val (v := .int .i64 ((i + 1 : Nat) : Int)) fr rfl rfl (by first | decide | simp) (x_assign rfl (fr.ev rfl)) ?_
        clear fr a; intro a fr
        refine wpList_nil ?_
        refine fx_next ?_
        exact ⟨_, by omega, (i + 1), rfl, fr.sub ⟨rfl, rfl, rfl, rfl, trivial⟩, hF, hV, hW, by omega, fun j hj => by rcases Nat.lt_succ_iff_lt_or_eq.1 hj with h | rfl; exact hall j h; simpa using hc13⟩
    · skip
      have hc4 := of_decide_eq_false hc4
      refine wp_exit ?_
      refine fx_xt ?_
      refine fx_xt ?_
      refine fx_xx ?_
      refine fx_next ?_
      refine wp_seq ?_
      refine wp_region_lit ?_  -- region 8
      refine fx_val (v := .bool true) fr rfl rfl (by first | decide | simp) (x_assign rfl rfl) ?_
      clear fr a; intro a fr
      refine wpList_nil ?_
      refine fx_next ?_
      refine wp_ret ?_
      refine fx_ret fr [.tmp 4] [.bool true] rfl ⟨rfl, trivial⟩ rfl ?_
      exact ⟨_, rfl, congrArg Value.bool (decide_eq_true (ext_getD st0 (by omega) fun j hj => hall j (by omega))).symm, hF⟩
set_option maxRecDepth 100000 in
set_option maxHeartbeats 4000000 in
theorem equal_c {w : World} {A B : Option Addr} {ca cb : Nat} {la lb : List St} (hV : View stE w A ca la) (hW : View stE w B cb lb) : Calls Try.prog 36 #[.slice A la.length ca, .slice B lb.length cb] w (Ret fun v w' => v = .bool (decide (la = lb)) ∧ New w w') := by
  have hVl := hV.len
  have hWl := hW.len
  unfold maxLen at hVl hWl
  have hF := Only.refl (fun _ => False) w
  refine fx_enter Try.func36 rfl (N := (26, [])) (T := [(0, .slice A la.length ca), (1, .slice B lb.length cb)]) rfl (show 2 ≤ 26 by decide) ⟨rfl, rfl, trivial⟩ fun a fr => ?_
  refine wp_seq ?_
  refine wp_region_lit ?_  -- region 0
  refine fx_val (v := .bool false) fr rfl rfl (by first | decide | simp) (x_assign rfl rfl) ?_
  clear fr a; intro a fr
  refine wpList_nil ?_
  refine fx_next ?_
  refine wp_seq ?_
  refine wp_seq ?_
  refine wp_region_lit ?_  -- region 1
  refine fx_val (v := .slice A la.length ca) fr rfl rfl (by first | decide | simp) (x_move rfl (fr.ev rfl)) ?_
  clear fr a; intro a fr
  refine fx_val (v := .int .i64 ((la.length : Nat) : Int)) fr rfl rfl (by first | decide | simp) (x_len Try.underlying32 rfl (fr.ev rfl)) ?_
  clear fr a; intro a fr
  refine fx_val (v := .slice B lb.length cb) fr rfl rfl (by first | decide | simp) (x_move rfl (fr.ev rfl)) ?_
  clear fr a; intro a fr
  refine fx_val (v := .int .i64 ((lb.length : Nat) : Int)) fr rfl rfl (by first | decide | simp) (x_len Try.underlying32 rfl (fr.ev rfl)) ?_
  clear fr a; intro a fr
  refine fx_val (v := .bool (decide (((la.length : Nat) : Int) ≠ ((lb.length : Nat) : Int)))) fr rfl rfl (by first | decide | simp) (x_neq rfl (fr.ev rfl) (fr.ev rfl) rfl) ?_
  clear fr a; intro a fr
  refine wpList_nil ?_
  refine fx_next ?_
  refine fx_cond fr rfl (fun hc1 => ?_) (fun hc1 => ?_)
  · skip
    have hc1 := of_decide_eq_true hc1
    refine wp_seq ?_
    refine wp_region_lit ?_  -- region 2
    refine fx_val (v := .bool false) fr rfl rfl (by first | decide | simp) (x_assign rfl rfl) ?_
    clear fr a; intro a fr
    refine wpList_nil ?_
    refine fx_next ?_
    refine wp_ret ?_
    refine fx_rt ?_
    refine fx_ret fr [.tmp 4] [.bool false] rfl ⟨rfl, trivial⟩ rfl ?_
    exact ⟨_, rfl, congrArg Value.bool (decide_eq_false fun he => hc1 (by rw [he])).symm, hF⟩
  · skip
    have hc1 := of_decide_eq_false hc1
    refine wp_skip ?_
    refine fx_next ?_
    refine wp_seq ?_
    refine wp_seq ?_
    refine wp_region_lit ?_  -- region 3
    refine fx_val (v := .slice A la.length ca) fr rfl rfl (by first | decide | simp) (x_move rfl (fr.ev rfl)) ?_
    clear fr a; intro a fr
    refine fx_val (v := .int .i64 ((la.length : Nat) : Int)) fr rfl rfl (by first | decide | simp) (x_len Try.underlying32 rfl (fr.ev rfl)) ?_
    clear fr a; intro a fr
    refine fx_val (v := .int .i64 0) fr rfl rfl (by first | decide | simp) (x_move rfl rfl) ?_
    clear fr a; intro a fr
    refine wpList_nil ?_
    refine fx_next ?_
    refine wp_block ?_
    refine fx_loop (fun nM a wL => ∃ i : Nat, nM = la.length - i ∧ Fr (26, []) [(0, .slice A la.length ca), (1, .slice B lb.length cb), (13, .int .i64 ((i : Nat) : Int)), (4, .bool false), (12, .int .i64 ((la.length : Nat) : Int))] a ∧ Only (fun _ => False) w wL ∧ View stE wL A ca la ∧ View stE wL B cb lb ∧ i ≤ la.length ∧ ∀ j, j < i → la.getD j st0 = lb.getD j st0) (n0 := _) ⟨0, rfl, fr.sub ⟨rfl, rfl, rfl, rfl, rfl, trivial⟩, hF, hV, hW, by omega, fun j hj => absurd hj (by omega)⟩ ?_
    rintro n3 a w2 ⟨i, rfl, fr, hF, hV, hW, hi, hall⟩
    refine wp_seq ?_
    refine wp_region_lit ?_  -- region 4
    refine fx_val (v := .bool (decide (((i : Nat) : Int) < ((la.length : Nat) : Int)))) fr rfl rfl (by first | decide | simp) (x_lss rfl (fr.ev rfl) (fr.ev rfl) rfl) ?_
    clear fr a; intro a fr
    refine wpList_nil ?_
    refine fx_next ?_
    refine wp_seq ?_
    refine fx_cond fr rfl (fun hc4 => ?_) (fun hc4 => ?_)
    · skip
      have hc4 := of_decide_eq_true hc4
      refine wp_skip ?_
      refine fx_next ?_
      refine wp_seq ?_
      refine wp_block ?_
      refine wp_seq ?_
      refine wp_region_lit ?_  -- region 5
      refine fx_val (v := .int .i64 ((i : Nat) : Int)) fr rfl rfl (by first | decide | simp) (x_move rfl (fr.ev rfl)) ?_
      clear fr a; intro a fr
      refine fx_val (v := .int .i64 ((i : Nat) : Int)) fr rfl rfl (by first | decide | simp) (x_assign rfl (fr.ev rfl)) ?_
      clear fr a; intro a fr
      refine wpList_nil ?_
      refine fx_next ?_
      refine wp_seq ?_
      refine fx_held (n := 9) (fun w => View stE w A ca la ∧ View stE w B cb lb ∧ True) (by kernel_rfl) rfl ?_  -- region 6
      intro w5 hN6
      replace hV := hV.new hN6
      replace hW := hW.new hN6
      replace hF := hF.trNew hN6
      refine fx_take (i := 0) (v := .slice A la.length ca) fr rfl (by kernel_rfl) rfl rfl (by first | decide | simp) (fun _ _ _ h => h) (fun _ ⟨hV, hW, _⟩ => x_move rfl (fr.ev rfl)) ⟨hV, hW, trivial⟩ ?_
      clear fr a; intro a fr
      refine fx_take (i := 1) (v := .int .i64 ((i : Nat) : Int)) fr rfl (by kernel_rfl) rfl rfl (by first | decide | simp) (fun _ _ _ h => h) (fun _ ⟨hV, hW, _⟩ => x_move rfl (fr.ev rfl)) ⟨hV, hW, trivial⟩ ?_
      clear fr a; intro a fr
      obtain ⟨g7, o8, hA9⟩ := (hV).some_ (by omega)
      refine fx_take (i := 2) (v := .pointer (some ⟨g7, o8 + i * 3, none⟩)) fr rfl (by kernel_rfl) rfl rfl (by first | decide | simp) (fun _ _ _ h => h) (fun _ ⟨hV, hW, _⟩ => x_indexV Try.underlying32 sz24 rfl (fr.ev rfl) hA9 (fr.ev rfl) (by omega) rfl) ⟨hV, hW, trivial⟩ ?_
      clear fr a; intro a fr
      refine fx_take (i := 3) (v := .agg (stE.arr (la.getD i st0))) fr rfl (by kernel_rfl) rfl rfl (by first | decide | simp) (fun _ _ _ h => h) (fun _ ⟨hV, hW, _⟩ => x_loadE (E := stE) ag24 rfl rfl (fr.ev rfl) ((hV).elem hA9 i st0 (by omega))) ⟨hV, hW, trivial⟩ ?_
      clear fr a; intro a fr
      refine fx_take (i := 4) (v := .slice B lb.length cb) fr rfl (by kernel_rfl) rfl rfl (by first | decide | simp) (fun _ _ _ h => h) (fun _ ⟨hV, hW, _⟩ => x_move rfl (fr.ev rfl)) ⟨hV, hW, trivial⟩ ?_
      clear fr a; intro a fr
      refine fx_take (i := 5) (v := .int .i64 ((i : Nat) : Int)) fr rfl (by kernel_rfl) rfl rfl (by first | decide | simp) (fun _ _ _ h => h) (fun _ ⟨hV, hW, _⟩ => x_move rfl (fr.ev rfl)) ⟨hV, hW, trivial⟩ ?_
      clear fr a; intro a fr
      obtain ⟨g10, o11, hA12⟩ := (hW).some_ (by omega)
      refine fx_take (i := 6) (v := .pointer (some ⟨g10, o11 + i * 3, none⟩)) fr rfl (by kernel_rfl) rfl rfl (by first | decide | simp) (fun _ _ _ h => h) (fun _ ⟨hV, hW, _⟩ => x_indexV Try.underlying32 sz24 rfl (fr.ev rfl) hA12 (fr.ev rfl) (by omega) rfl) ⟨hV, hW, trivial⟩ ?_
      clear fr a; intro a fr
      refine fx_take (i := 7) (v := .agg (stE.arr (lb.getD i st0))) fr rfl (by kernel_rfl) rfl rfl (by first | decide | simp) (fun _ _ _ h => h) (fun _ ⟨hV, hW, _⟩ => x_loadE (E := stE) ag24 rfl rfl (fr.ev rfl) ((hW).elem hA12 i st0 (by omega))) ⟨hV, hW, trivial⟩ ?_
      clear fr a; intro a fr
      refine fx_take (i := 8) (v := .bool (!decide ((la.getD i st0) = (lb.getD i st0)))) fr rfl (by kernel_rfl) rfl rfl (by first | decide | simp) (fun _ _ _ h => h) (fun _ ⟨hV, hW, _⟩ => x_neE stER rfl rfl (fr.ev rfl) (fr.ev rfl) rfl) ⟨hV, hW, trivial⟩ ?_
      clear fr a; intro a fr
      refine fx_hdone (by kernel_rfl) ?_
      refine fx_next ?_
      refine fx_cond fr rfl (fun hc13 => ?_) (fun hc13 => ?_)
      · skip
        refine wp_seq ?_
        refine wp_region_lit ?_  -- region 7
        refine fx_val (v := .bool false) fr rfl rfl (by first | decide | simp) (x_assign rfl rfl) ?_
        clear fr a; intro a fr
        refine wpList_nil ?_
        refine fx_next ?_
        refine wp_ret ?_
        refine fx_rb ?_
        refine fx_rt ?_
        refine fx_rt ?_
        refine fx_rb ?_
        refine fx_rt ?_
        refine fx_ret fr [.tmp 4] [.bool false] rfl ⟨rfl, trivial⟩ rfl ?_
        exact ⟨_, rfl, congrArg Value.bool (decide_eq_false fun he => by rw [he] at hc13; simp at hc13).symm, hF⟩
      · skip
        refine wp_skip ?_
        refine fx_blk ?_
        refine fx_next ?_
        refine wp_region_lit ?_  -- region 8
        refine fx_val (v := .int .i64 ((i + 1 : Nat) : Int)) fr rfl rfl (by first | decide | simp) (x_add rfl (fr.ev rfl) rfl (i64w (r := ((i + 1 : Nat) : Int)) (by omega) (by omega))) ?_
        clear fr a; intro a fr
        refine fx_val (v := .int .i64 ((i + 1 : Nat) : Int)) fr rfl rfl (by first | decide | simp) (x_move rfl (fr.ev rfl)) ?_
        clear fr a; intro a fr
        refine wpList_nil ?_
        refine fx_next ?_
        exact ⟨_, by omega, (i + 1), rfl, fr.sub ⟨rfl, rfl, rfl, rfl, rfl, trivial⟩, hF, hV, hW, by omega, fun j hj => by rcases Nat.lt_succ_iff_lt_or_eq.1 hj with h | rfl; exact hall j h; simpa using hc13⟩
    · skip
      have hc4 := of_decide_eq_false hc4
      refine wp_exit ?_
      refine fx_xt ?_
      refine fx_xt ?_
      refine fx_xx ?_
      refine fx_next ?_
      refine wp_seq ?_
      refine wp_region_lit ?_  -- region 9
      refine fx_val (v := .bool true) fr rfl rfl (by first | decide | simp) (x_assign rfl rfl) ?_
      clear fr a; intro a fr
      refine wpList_nil ?_
      refine fx_next ?_
      refine wp_ret ?_
      refine fx_ret fr [.tmp 4] [.bool true] rfl ⟨rfl, trivial⟩ rfl ?_
      exact ⟨_, rfl, congrArg Value.bool (decide_eq_true (ext_getD st0 (by omega) fun j hj => hall j (by omega))).symm, hF⟩
set_option maxRecDepth 100000 in
set_option maxHeartbeats 4000000 in
theorem rhead_c {w : World} {A : Option Addr} {cap : Nat} {l : List VSt} (hV : View stE w A cap (vals l)) : Calls Try.prog 34 #[.slice A ((vals l).length) cap] w (Ret fun v w' => v = .tuple #[.agg (stE.arr (hdS l)), .bool (decide (l ≠ []))] ∧ New w w') := by
  have hVl := hV.len
  unfold maxLen at hVl
  have hvl := vals_len l
  have hF := Only.refl (fun _ => False) w
  refine fx_enter Try.func34 rfl (N := (11, [])) (T := [(0, .slice A ((vals l).length) cap)]) rfl (show 1 ≤ 11 by decide) ⟨rfl, trivial⟩ fun a fr => ?_
  refine wp_seq ?_
  refine wp_region_lit ?_  -- region 0
  refine fx_new fr rfl rfl (by first | decide | simp) (x_alloc (z := .agg (#[.int .u32 0, .int .i64 0, .int .u32 0])) (cs := stE.arr st0) rfl (by kernel_rfl) rfl) ?_
  clear fr a
  intro b1 w2 hN3 B4 hb5 a fr
  have ap_A_b1 : Apart A b1 := hV.apart hb5
  have g_b1 := Nat.le_trans hF.size hb5
  replace hV := hV.new hN3
  replace hF := hF.trNew hN3
  refine fx_val (v := .bool false) fr rfl rfl (by first | decide | simp) (x_assign rfl rfl) ?_
  clear fr a; intro a fr
  refine wpList_nil ?_
  refine fx_next ?_
  refine wp_seq ?_
  refine wp_seq ?_
  refine wp_region_lit ?_  -- region 1
  refine fx_val (v := .slice A ((vals l).length) cap) fr rfl rfl (by first | decide | simp) (x_move rfl (fr.ev rfl)) ?_
  clear fr a; intro a fr
  refine fx_val (v := .int .i64 (((vals l).length : Nat) : Int)) fr rfl rfl (by first | decide | simp) (x_len Try.underlying32 rfl (fr.ev rfl)) ?_
  clear fr a; intro a fr
  refine fx_val (v := .bool (decide ((((vals l).length : Nat) : Int) = 0))) fr rfl rfl (by first | decide | simp) (x_eql rfl (fr.ev rfl) rfl rfl) ?_
  clear fr a; intro a fr
  refine wpList_nil ?_
  refine fx_next ?_
  refine fx_cond fr rfl (fun hc6 => ?_) (fun hc6 => ?_)
  · skip
    have hc6 := of_decide_eq_true hc6
    refine wp_seq ?_
    refine wp_region_lit ?_  -- region 2
    refine fx_val (v := .agg (stE.arr st0)) fr rfl rfl (by first | decide | simp) (x_build (cells := stE.arr st0) rfl (by kernel_rfl)) ?_
    clear fr a; intro a fr
    refine fx_storeS sz24 rfl rfl rfl (fr.ev rfl) (fr.ev rfl) (stE.all _) B4 (stE.size _) (stE.size _) fun w7 hO8 hBq => ?_
    replace hV := hV.only hO8 (Apart.ne1 ap_A_b1)
    replace hF := hF.loc hO8 (.inr g_b1)
    replace B4 := hBq
    clear hBq
    refine fx_val (v := .bool false) fr rfl rfl (by first | decide | simp) (x_assign rfl rfl) ?_
    clear fr a; intro a fr
    refine wpList_nil ?_
    refine fx_next ?_
    refine wp_ret ?_
    refine fx_rt ?_
    refine fx_ret fr [.cell 2 24, .tmp 3] [.agg (stE.arr st0), .bool false] rfl ⟨⟨_, rfl, loadV_E (E := stE) ag24 rfl (B4.rangeE stE)⟩, rfl, trivial⟩ rfl ?_
    obtain rfl : l = [] := List.length_eq_zero_iff.1 (by omega)
    exact ⟨_, rfl, rfl, hF⟩
  · skip
    have hc6 := of_decide_eq_false hc6
    refine wp_skip ?_
    refine fx_next ?_
    refine wp_seq ?_
    refine wp_region_lit ?_  -- region 3
    refine fx_val (v := .slice A ((vals l).length) cap) fr rfl rfl (by first | decide | simp) (x_move rfl (fr.ev rfl)) ?_
    clear fr a; intro a fr
    obtain ⟨g9, o10, hA11⟩ := (hV).some_ (by omega)
    refine fx_val (v := .pointer (some ⟨g9, o10 + 0 * 3, none⟩)) fr rfl rfl (by first | decide | simp) (x_indexV Try.underlying32 sz24 rfl (fr.ev rfl) hA11 rfl (by omega) rfl) ?_
    clear fr a; intro a fr
    refine fx_val (v := .agg (stE.arr ((vals l).getD 0 st0))) fr rfl rfl (by first | decide | simp) (x_loadE (E := stE) ag24 rfl rfl (fr.ev rfl) ((hV).elem hA11 0 st0 (by omega))) ?_
    clear fr a; intro a fr
    refine fx_storeS sz24 rfl rfl rfl (fr.ev rfl) (fr.ev rfl) (stE.all _) B4 (stE.size _) (stE.size _) fun w12 hO13 hBq => ?_
    replace hV := hV.only hO13 (Apart.ne1 ap_A_b1)
    replace hF := hF.loc hO13 (.inr g_b1)
    replace B4 := hBq
    clear hBq
    refine fx_val (v := .bool true) fr rfl rfl (by first | decide | simp) (x_assign rfl rfl) ?_
    clear fr a; intro a fr
    refine wpList_nil ?_
    refine fx_next ?_
    refine wp_ret ?_
    refine fx_ret fr [.cell 2 24, .tmp 3] [.agg (stE.arr ((vals l).getD 0 st0)), .bool true] rfl ⟨⟨_, rfl, loadV_E (E := stE) ag24 rfl (B4.rangeE stE)⟩, rfl, trivial⟩ rfl ?_
    rw [← hdS_at (by omega), ← vals_at l 0 (by omega), decide_eq_true (List.length_pos_iff.1 (by omega) : l ≠ [])]
    exact ⟨_, rfl, rfl, hF⟩
set_option maxRecDepth 100000 in
set_option maxHeartbeats 4000000 in
theorem rpush_c (s : St) {w : World} {A : Option Addr} {cap : Nat} {l : List VSt} (hV : View stE w A cap (vals l)) (hl : l.length ≤ 100000) : Calls Try.prog 12 #[.slice A ((vals l).length) cap, .agg (stE.arr s)] w (Ret fun v w' => ∃ A' cap', v = .tuple #[.slice A' (vals (pushL l s)).length cap', .int .i64 (pushE l s)] ∧ View stE w' A' cap' (vals (pushL l s)) ∧ (∀ g, inA A' g → inA A g ∨ w.heap.size ≤ g) ∧ New w w') := by
  have hVl := hV.len
  unfold maxLen at hVl
  have hvl := vals_len l
  have hF := Only.refl (fun _ => False) w
  refine fx_enter Try.func12 rfl (N := (23, [])) (T := [(0, .slice A ((vals l).length) cap), (1, .agg (stE.arr s))]) rfl (show 2 ≤ 23 by decide) ⟨rfl, rfl, trivial⟩ fun a fr => ?_
  refine wp_seq ?_
  refine wp_region_lit ?_  -- region 0
  refine fx_new fr rfl rfl (by first | decide | simp) (x_box (cs := stE.arr s) rfl (fr.ev rfl) rfl) ?_
  clear fr a
  intro b1 w2 hN3 B4 hb5 a fr
  have ap_A_b1 : Apart A b1 := hV.apart hb5
  have g_b1 := Nat.le_trans hF.size hb5
  replace hV := hV.new hN3
  replace hF := hF.trNew hN3
  refine fx_val (v := .slice none 0 0) fr rfl rfl (by first | decide | simp) (x_assign rfl rfl) ?_
  clear fr a; intro a fr
  refine fx_val (v := .int .i64 0) fr rfl rfl (by first | decide | simp) (x_assign rfl rfl) ?_
  clear fr a; intro a fr
  refine wpList_nil ?_
  refine fx_next ?_
  refine wp_seq ?_
  refine wp_region_lit ?_  -- region 1
  refine fx_val (v := .agg (stE.arr s)) fr rfl rfl (by first | decide | simp) (x_loadE (E := stE) ag24 rfl rfl (fr.ev rfl) (B4.rangeE (P := Try.prog) stE)) ?_
  clear fr a; intro a fr
  refine fx_call fr rfl rfl (by first | decide | simp) (x_call (vs := [.agg (stE.arr s)]) rfl rfl ⟨(fr.ev rfl), trivial⟩ Try.func31 nm31 rfl) (rcheck_c s _) ?_
  clear fr a
  rintro v w6 ⟨rfl, hN7⟩ a fr
  replace hV := hV.new hN7
  replace B4 := B4.new hN7
  replace hF := hF.trNew hN7
  refine fx_val (v := .int .i64 (chkS s)) fr rfl rfl (by first | decide | simp) (x_assign rfl (fr.ev rfl)) ?_
  clear fr a; intro a fr
  refine wpList_nil ?_
  refine fx_next ?_
  refine wp_seq ?_
  refine wp_seq ?_
  refine wp_region_lit ?_  -- region 2
  refine fx_val (v := .int .i64 (chkS s)) fr rfl rfl (by first | decide | simp) (x_move rfl (fr.ev rfl)) ?_
  clear fr a; intro a fr
  refine fx_val (v := .bool (decide (chkS s ≠ 0))) fr rfl rfl (by first | decide | simp) (x_neq rfl (fr.ev rfl) rfl rfl) ?_
  clear fr a; intro a fr
  refine wpList_nil ?_
  refine fx_next ?_
  refine fx_cond fr rfl (fun hc8 => ?_) (fun hc8 => ?_)
  · skip
    have hc8 := of_decide_eq_true hc8
    refine wp_seq ?_
    refine wp_region_lit ?_  -- region 3
    refine fx_val (v := .slice A ((vals l).length) cap) fr rfl rfl (by first | decide | simp) (x_move rfl (fr.ev rfl)) ?_
    clear fr a; intro a fr
    refine fx_val (v := .int .i64 (chkS s)) fr rfl rfl (by first | decide | simp) (x_move rfl (fr.ev rfl)) ?_
    clear fr a; intro a fr
    refine fx_val (v := .slice A ((vals l).length) cap) fr rfl rfl (by first | decide | simp) (x_assign rfl (fr.ev rfl)) ?_
    clear fr a; intro a fr
    refine fx_val (v := .int .i64 (chkS s)) fr rfl rfl (by first | decide | simp) (x_assign rfl (fr.ev rfl)) ?_
    clear fr a; intro a fr
    refine wpList_nil ?_
    refine fx_next ?_
    refine wp_ret ?_
    refine fx_rt ?_
    refine fx_ret fr [.tmp 4, .tmp 5] [.slice A ((vals l).length) cap, .int .i64 (chkS s)] rfl ⟨rfl, rfl, trivial⟩ rfl ?_
    rw [show pushE l s = chkS s by unfold pushE; rw [if_pos hc8], show pushL l s = l by unfold pushL; rw [dif_neg hc8]]
    exact ⟨_, rfl, A, cap, rfl, hV, fun g hg => .inl hg, hF⟩
  · skip
    have hc8 := of_decide_eq_false hc8
    refine wp_skip ?_
    refine fx_next ?_
    refine wp_seq ?_
    refine wp_seq ?_
    refine wp_region_lit ?_  -- region 4
    refine fx_val (v := .slice A ((vals l).length) cap) fr rfl rfl (by first | decide | simp) (x_move rfl (fr.ev rfl)) ?_
    clear fr a; intro a fr
    refine fx_val (v := .int .i64 (((vals l).length : Nat) : Int)) fr rfl rfl (by first | decide | simp) (x_len Try.underlying32 rfl (fr.ev rfl)) ?_
    clear fr a; intro a fr
    refine fx_val (v := .bool (decide (4 ≤ (((vals l).length : Nat) : Int)))) fr rfl rfl (by first | decide | simp) (x_geq rfl (fr.ev rfl) rfl rfl) ?_
    clear fr a; intro a fr
    refine wpList_nil ?_
    refine fx_next ?_
    refine fx_cond fr rfl (fun hc9 => ?_) (fun hc9 => ?_)
    · skip
      have hc9 := of_decide_eq_true hc9
      refine wp_seq ?_
      refine wp_region_lit ?_  -- region 5
      refine fx_val (v := .slice A ((vals l).length) cap) fr rfl rfl (by first | decide | simp) (x_move rfl (fr.ev rfl)) ?_
      clear fr a; intro a fr
      refine fx_val (v := .slice A ((vals l).length) cap) fr rfl rfl (by first | decide | simp) (x_assign rfl (fr.ev rfl)) ?_
      clear fr a; intro a fr
      refine fx_val (v := .int .i64 240) fr rfl rfl (by first | decide | simp) (x_assign rfl rfl) ?_
      clear fr a; intro a fr
      refine wpList_nil ?_
      refine fx_next ?_
      refine wp_ret ?_
      refine fx_rt ?_
      refine fx_ret fr [.tmp 4, .tmp 5] [.slice A ((vals l).length) cap, .int .i64 240] rfl ⟨rfl, rfl, trivial⟩ rfl ?_
      have h0 := Classical.not_not.1 hc8
      rw [show pushE l s = 240 by unfold pushE; rw [if_neg hc8, if_pos (by omega)], show pushL l s = l by unfold pushL; rw [dif_pos h0, if_pos (by omega)]]
      exact ⟨_, rfl, A, cap, rfl, hV, fun g hg => .inl hg, hF⟩
    · skip
      have hc9 := of_decide_eq_false hc9
      refine wp_skip ?_
      refine fx_next ?_
      refine wp_seq ?_
      refine fx_heldT (n := 6) (k := 6) (fun w => View stE w A cap (vals l) ∧ Blk w b1 24 (stE.arr s) ∧ True) (by kernel_rfl) (by kernel_rfl) rfl ?_  -- region 6
      intro w10 hN11
      replace hV := hV.new hN11
      replace B4 := B4.new hN11
      replace hF := hF.trNew hN11
      refine fx_take (i := 1) (v := .slice A ((vals l).length) cap) fr rfl (by kernel_rfl) rfl rfl (by first | decide | simp) (fun _ _ _ h => h) (fun _ ⟨hV, B4, _⟩ => x_move rfl (fr.ev rfl)) ⟨hV, B4, trivial⟩ ?_
      clear fr a; intro a fr
      refine fx_take (i := 3) (v := .agg (stE.arr s)) fr rfl (by kernel_rfl) rfl rfl (by first | decide | simp) (fun _ _ _ h => h) (fun _ ⟨hV, B4, _⟩ => x_loadE (E := stE) ag24 rfl rfl (fr.ev rfl) (B4.rangeE (P := Try.prog) stE)) ⟨hV, B4, trivial⟩ ?_
      clear fr a; intro a fr
      refine fx_two (i := 0) (j := 4) (by kernel_rfl) (fx_op rfl ?_) (fx_op rfl ?_)
      · skip
        refine fx_build0 (E := stE) el32 fr rfl rfl (by decide) rfl ?_
        clear fr a
        intro A12 w13 hN14 O15 hA16 a fr
        have ap2_A_A12 : Apart2 A A12 := (new_apart2 hA16 fun _ hg => hV.lt hg).symm
        have ap_A12_b1 : Apart A12 b1 := new_apart hA16 B4.lt
        have gA_A12 := gA_new hF hA16
        replace hV := hV.new hN14
        replace B4 := B4.new hN14
        replace hF := hF.trNew hN14
        refine wpList_nil ?_
        refine ⟨⟨hV, B4, trivial⟩, ?_⟩
        refine fx_two (i := 2) (j := 4) (by kernel_rfl) (fx_op rfl ?_) (fx_op rfl ?_)
        · skip
          refine fx_append (E := stE) (l := []) (l' := vals l) el32 fr rfl rfl (by decide) rfl (fr.ev rfl) (fr.ev rfl) (by first | rfl | (simp; done) | (simp; omega)) (by first | rfl | (simp; done) | (simp; omega)) O15 hV (by first | omega | (simp only [List.length_append, List.length_cons, List.length_nil, List.nil_append]; omega)) (by unfold maxLen; first | omega | (simp; omega)) ?_
          clear fr a
          intro A17 cap18 w19 O20 hO21 mv22 a fr
          have ap2_A17_A : Apart2 A17 A := moved_apart2 mv22 ap2_A_A12.symm fun _ hg => hV.lt hg
          have ap_A17_b1 : Apart A17 b1 := moved_apart mv22 ap_A12_b1 B4.lt
          have gA_A17 := gA_moved hF mv22 gA_A12
          replace hV := hV.only hO21 (fun g h1 h2 => ap2_A_A12 g h1 h2)
          replace B4 := B4.only hO21 ap_A12_b1
          replace hF := hF.locA hO21 gA_A12
          clear O15
          refine wpList_nil ?_
          refine ⟨⟨hV, B4, trivial⟩, ?_⟩
          refine fx_one (i := 4) (by kernel_rfl) (fx_op rfl ?_)
          refine fx_build1 (E := stE) (p := s) el32 (by decide) fr rfl rfl (by decide) rfl (fr.ev rfl) ?_
          clear fr a
          intro A23 w24 hN25 O26 hA27 a fr
          have ap2_A_A23 : Apart2 A A23 := (new_apart2 hA27 fun _ hg => hV.lt hg).symm
          have ap_A23_b1 : Apart A23 b1 := new_apart hA27 B4.lt
          have ap2_A17_A23 : Apart2 A17 A23 := (new_apart2 hA27 fun _ hg => O20.lt hg).symm
          have gA_A23 := gA_new hF hA27
          replace hV := hV.new hN25
          replace B4 := B4.new hN25
          replace O20 := O20.new hN25
          replace hF := hF.trNew hN25
          refine wpList_nil ?_
          refine ⟨⟨hV, B4, trivial⟩, ?_⟩
          refine fx_one (i := 5) (by kernel_rfl) (fx_op rfl ?_)
          refine fx_append (E := stE) (l := ([]) ++ (vals l)) (l' := [s]) el32 fr rfl rfl (by decide) rfl (fr.ev rfl) (fr.ev rfl) (by first | rfl | (simp; done) | (simp; omega)) (by first | rfl | (simp; done) | (simp; omega)) O20 O26.view (by first | omega | (simp only [List.length_append, List.length_cons, List.length_nil, List.nil_append]; omega)) (by unfold maxLen; first | omega | (simp; omega)) ?_
          clear fr a
          intro A28 cap29 w30 O31 hO32 mv33 a fr
          have ap2_A28_A : Apart2 A28 A := moved_apart2 mv33 ap2_A17_A fun _ hg => hV.lt hg
          have ap_A28_b1 : Apart A28 b1 := moved_apart mv33 ap_A17_b1 B4.lt
          have ap2_A28_A23 : Apart2 A28 A23 := moved_apart2 mv33 ap2_A17_A23 fun _ hg => O26.lt hg
          have gA_A28 := gA_moved hF mv33 gA_A17
          replace hV := hV.only hO32 (fun g h1 h2 => ap2_A17_A.symm g h1 h2)
          replace B4 := B4.only hO32 ap_A17_b1
          replace O26 := O26.only hO32 (fun g h1 h2 => ap2_A17_A23.symm g h1 h2)
          replace hF := hF.locA hO32 gA_A17
          clear O20
          refine wpList_nil ?_
          refine ⟨⟨hV, B4, trivial⟩, ?_⟩
          refine fx_hdone (by kernel_rfl) ?_
          refine fx_tail ?_
          refine fx_val (v := .slice A28 (((([]) ++ (vals l)) ++ ([s])).length) cap29) fr rfl rfl (by first | decide | simp) (x_assign rfl (fr.ev rfl)) ?_
          clear fr a; intro a fr
          refine fx_val (v := .int .i64 0) fr rfl rfl (by first | decide | simp) (x_assign rfl rfl) ?_
          clear fr a; intro a fr
          refine wpList_nil ?_
          refine fx_next ?_
          refine wp_ret ?_
          refine fx_ret fr [.tmp 4, .tmp 5] [.slice A28 (((([]) ++ (vals l)) ++ ([s])).length) cap29, .int .i64 0] rfl ⟨rfl, rfl, trivial⟩ rfl ?_
          have h0 := Classical.not_not.1 hc8
          rw [show pushE l s = 0 by unfold pushE; rw [if_neg hc8, if_neg (by omega)], show pushL l s = l ++ [⟨s, h0⟩] by unfold pushL; rw [dif_pos h0, if_neg (by omega)]]
          have ev : vals l ++ [s] = vals (l ++ [⟨s, h0⟩]) := (vals_snoc l ⟨s, h0⟩).symm
          have hO9 := O31.view
          simp only [List.nil_append] at hO9
          rw [ev] at hO9
          exact ⟨_, rfl, A28, cap29, by simp only [List.nil_append, ev]; rfl, hO9, fun g hg => .inr ((gA_A28 g hg).resolve_left id), hF⟩
        · skip
          refine fx_build1 (E := stE) (p := s) el32 (by decide) fr rfl rfl (by decide) rfl (fr.ev rfl) ?_
          clear fr a
          intro A34 w35 hN36 O37 hA38 a fr
          have ap2_A_A34 : Apart2 A A34 := (new_apart2 hA38 fun _ hg => hV.lt hg).symm
          have ap_A34_b1 : Apart A34 b1 := new_apart hA38 B4.lt
          have ap2_A12_A34 : Apart2 A12 A34 := (new_apart2 hA38 fun _ hg => O15.lt hg).symm
          have gA_A34 := gA_new hF hA38
          replace hV := hV.new hN36
          replace B4 := B4.new hN36
          replace O15 := O15.new hN36
          replace hF := hF.trNew hN36
          refine wpList_nil ?_
          refine ⟨⟨hV, B4, trivial⟩, ?_⟩
          refine fx_one (i := 2) (by kernel_rfl) (fx_op rfl ?_)
          refine fx_append (E := stE) (l := []) (l' := vals l) el32 fr rfl rfl (by decide) rfl (fr.ev rfl) (fr.ev rfl) (by first | rfl | (simp; done) | (simp; omega)) (by first | rfl | (simp; done) | (simp; omega)) O15 hV (by first | omega | (simp only [List.length_append, List.length_cons, List.length_nil, List.nil_append]; omega)) (by unfold maxLen; first | omega | (simp; omega)) ?_
          clear fr a
          intro A39 cap40 w41 O42 hO43 mv44 a fr
          have ap2_A39_A : Apart2 A39 A := moved_apart2 mv44 ap2_A_A12.symm fun _ hg => hV.lt hg
          have ap_A39_b1 : Apart A39 b1 := moved_apart mv44 ap_A12_b1 B4.lt
          have ap2_A39_A34 : Apart2 A39 A34 := moved_apart2 mv44 ap2_A12_A34 fun _ hg => O37.lt hg
          have gA_A39 := gA_moved hF mv44 gA_A12
          replace hV := hV.only hO43 (fun g h1 h2 => ap2_A_A12 g h1 h2)
          replace B4 := B4.only hO43 ap_A12_b1
          replace O37 := O37.only hO43 (fun g h1 h2 => ap2_A12_A34.symm g h1 h2)
          replace hF := hF.locA hO43 gA_A12
          clear O15
          refine wpList_nil ?_
          refine ⟨⟨hV, B4, trivial⟩, ?_⟩
          refine fx_one (i := 5) (by kernel_rfl) (fx_op rfl ?_)
          refine fx_append (E := stE) (l := ([]) ++ (vals l)) (l' := [s]) el32 fr rfl rfl (by decide) rfl (fr.ev rfl) (fr.ev rfl) (by first | rfl | (simp; done) | (simp; omega)) (by first | rfl | (simp; done) | (simp; omega)) O42 O37.view (by first | omega | (simp only [List.length_append, List.length_cons, List.length_nil, List.nil_append]; omega)) (by unfold maxLen; first | omega | (simp; omega)) ?_
          clear fr a
          intro A45 cap46 w47 O48 hO49 mv50 a fr
          have ap2_A45_A : Apart2 A45 A := moved_apart2 mv50 ap2_A39_A fun _ hg => hV.lt hg
          have ap_A45_b1 : Apart A45 b1 := moved_apart mv50 ap_A39_b1 B4.lt
          have ap2_A45_A34 : Apart2 A45 A34 := moved_apart2 mv50 ap2_A39_A34 fun _ hg => O37.lt hg
          have gA_A45 := gA_moved hF mv50 gA_A39
          replace hV := hV.only hO49 (fun g h1 h2 => ap2_A39_A.symm g h1 h2)
          replace B4 := B4.only hO49 ap_A39_b1
          replace O37 := O37.only hO49 (fun g h1 h2 => ap2_A39_A34.symm g h1 h2)
          replace hF := hF.locA hO49 gA_A39
          clear O42
          refine wpList_nil ?_
          refine ⟨⟨hV, B4, trivial⟩, ?_⟩
          refine fx_hdone (by kernel_rfl) ?_
          refine fx_tail ?_
          refine fx_val (v := .slice A45 (((([]) ++ (vals l)) ++ ([s])).length) cap46) fr rfl rfl (by first | decide | simp) (x_assign rfl (fr.ev rfl)) ?_
          clear fr a; intro a fr
          refine fx_val (v := .int .i64 0) fr rfl rfl (by first | decide | simp) (x_assign rfl rfl) ?_
          clear fr a; intro a fr
          refine wpList_nil ?_
          refine fx_next ?_
          refine wp_ret ?_
          refine fx_ret fr [.tmp 4, .tmp 5] [.slice A45 (((([]) ++ (vals l)) ++ ([s])).length) cap46, .int .i64 0] rfl ⟨rfl, rfl, trivial⟩ rfl ?_
          have h0 := Classical.not_not.1 hc8
          rw [show pushE l s = 0 by unfold pushE; rw [if_neg hc8, if_neg (by omega)], show pushL l s = l ++ [⟨s, h0⟩] by unfold pushL; rw [dif_pos h0, if_neg (by omega)]]
          have ev : vals l ++ [s] = vals (l ++ [⟨s, h0⟩]) := (vals_snoc l ⟨s, h0⟩).symm
          have hO9 := O48.view
          simp only [List.nil_append] at hO9
          rw [ev] at hO9
          exact ⟨_, rfl, A45, cap46, by simp only [List.nil_append, ev]; rfl, hO9, fun g hg => .inr ((gA_A45 g hg).resolve_left id), hF⟩
      · skip
        refine fx_build1 (E := stE) (p := s) el32 (by decide) fr rfl rfl (by decide) rfl (fr.ev rfl) ?_
        clear fr a
        intro A51 w52 hN53 O54 hA55 a fr
        have ap2_A_A51 : Apart2 A A51 := (new_apart2 hA55 fun _ hg => hV.lt hg).symm
        have ap_A51_b1 : Apart A51 b1 := new_apart hA55 B4.lt
        have gA_A51 := gA_new hF hA55
        replace hV := hV.new hN53
        replace B4 := B4.new hN53
        replace hF := hF.trNew hN53
        refine wpList_nil ?_
        refine ⟨⟨hV, B4, trivial⟩, ?_⟩
        refine fx_one (i := 0) (by kernel_rfl) (fx_op rfl ?_)
        refine fx_build0 (E := stE) el32 fr rfl rfl (by decide) rfl ?_
        clear fr a
        intro A56 w57 hN58 O59 hA60 a fr
        have ap2_A_A56 : Apart2 A A56 := (new_apart2 hA60 fun _ hg => hV.lt hg).symm
        have ap_A56_b1 : Apart A56 b1 := new_apart hA60 B4.lt
        have ap2_A51_A56 : Apart2 A51 A56 := (new_apart2 hA60 fun _ hg => O54.lt hg).symm
        have gA_A56 := gA_new hF hA60
        replace hV := hV.new hN58
        replace B4 := B4.new hN58
        replace O54 := O54.new hN58
        replace hF := hF.trNew hN58
        refine wpList_nil ?_
        refine ⟨⟨hV, B4, trivial⟩, ?_⟩
        refine fx_one (i := 2) (by kernel_rfl) (fx_op rfl ?_)
        refine fx_append (E := stE) (l := []) (l' := vals l) el32 fr rfl rfl (by decide) rfl (fr.ev rfl) (fr.ev rfl) (by first | rfl | (simp; done) | (simp; omega)) (by first | rfl | (simp; done) | (simp; omega)) O59 hV (by first | omega | (simp only [List.length_append, List.length_cons, List.length_nil, List.nil_append]; omega)) (by unfold maxLen; first | omega | (simp; omega)) ?_
        clear fr a
        intro A61 cap62 w63 O64 hO65 mv66 a fr
        have ap2_A61_A : Apart2 A61 A := moved_apart2 mv66 ap2_A_A56.symm fun _ hg => hV.lt hg
        have ap_A61_b1 : Apart A61 b1 := moved_apart mv66 ap_A56_b1 B4.lt
        have ap2_A61_A51 : Apart2 A61 A51 := moved_apart2 mv66 ap2_A51_A56.symm fun _ hg => O54.lt hg
        have gA_A61 := gA_moved hF mv66 gA_A56
        replace hV := hV.only hO65 (fun g h1 h2 => ap2_A_A56 g h1 h2)
        replace B4 := B4.only hO65 ap_A56_b1
        replace O54 := O54.only hO65 (fun g h1 h2 => ap2_A51_A56 g h1 h2)
        replace hF := hF.locA hO65 gA_A56
        clear O59
        refine wpList_nil ?_
        refine ⟨⟨hV, B4, trivial⟩, ?_⟩
        refine fx_one (i := 5) (by kernel_rfl) (fx_op rfl ?_)
        refine fx_append (E := stE) (l := ([]) ++ (vals l)) (l' := [s]) el32 fr rfl rfl (by decide) rfl (fr.ev rfl) (fr.ev rfl) (by first | rfl | (simp; done) | (simp; omega)) (by first | rfl | (simp; done) | (simp; omega)) O64 O54.view (by first | omega | (simp only [List.length_append, List.length_cons, List.length_nil, List.nil_append]; omega)) (by unfold maxLen; first | omega | (simp; omega)) ?_
        clear fr a
        intro A67 cap68 w69 O70 hO71 mv72 a fr
        have ap2_A67_A : Apart2 A67 A := moved_apart2 mv72 ap2_A61_A fun _ hg => hV.lt hg
        have ap_A67_b1 : Apart A67 b1 := moved_apart mv72 ap_A61_b1 B4.lt
        have ap2_A67_A51 : Apart2 A67 A51 := moved_apart2 mv72 ap2_A61_A51 fun _ hg => O54.lt hg
        have gA_A67 := gA_moved hF mv72 gA_A61
        replace hV := hV.only hO71 (fun g h1 h2 => ap2_A61_A.symm g h1 h2)
        replace B4 := B4.only hO71 ap_A61_b1
        replace O54 := O54.only hO71 (fun g h1 h2 => ap2_A61_A51.symm g h1 h2)
        replace hF := hF.locA hO71 gA_A61
        clear O64
        refine wpList_nil ?_
        refine ⟨⟨hV, B4, trivial⟩, ?_⟩
        refine fx_hdone (by kernel_rfl) ?_
        refine fx_tail ?_
        refine fx_val (v := .slice A67 (((([]) ++ (vals l)) ++ ([s])).length) cap68) fr rfl rfl (by first | decide | simp) (x_assign rfl (fr.ev rfl)) ?_
        clear fr a; intro a fr
        refine fx_val (v := .int .i64 0) fr rfl rfl (by first | decide | simp) (x_assign rfl rfl) ?_
        clear fr a; intro a fr
        refine wpList_nil ?_
        refine fx_next ?_
        refine wp_ret ?_
        refine fx_ret fr [.tmp 4, .tmp 5] [.slice A67 (((([]) ++ (vals l)) ++ ([s])).length) cap68, .int .i64 0] rfl ⟨rfl, rfl, trivial⟩ rfl ?_
        have h0 := Classical.not_not.1 hc8
        rw [show pushE l s = 0 by unfold pushE; rw [if_neg hc8, if_neg (by omega)], show pushL l s = l ++ [⟨s, h0⟩] by unfold pushL; rw [dif_pos h0, if_neg (by omega)]]
        have ev : vals l ++ [s] = vals (l ++ [⟨s, h0⟩]) := (vals_snoc l ⟨s, h0⟩).symm
        have hO9 := O70.view
        simp only [List.nil_append] at hO9
        rw [ev] at hO9
        exact ⟨_, rfl, A67, cap68, by simp only [List.nil_append, ev]; rfl, hO9, fun g hg => .inr ((gA_A67 g hg).resolve_left id), hF⟩
end Go.Proofs.Ytemihglffmfikaa
