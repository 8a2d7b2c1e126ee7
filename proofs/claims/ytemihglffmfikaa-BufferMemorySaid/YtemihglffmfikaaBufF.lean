/-
  Forward, the code's and the document's. Printed by gen_f.py.
-/
import Derived.Test.YtemihglffmfikaaBufQ
import Derived.Test.YtemihglffmfikaaBufE
namespace Go.Proofs.Ytemihglffmfikaa
open Go.RowKit

set_option maxRecDepth 100000 in
set_option maxHeartbeats 4000000 in
theorem forward_c {w : World} {b : Nat} {l : List VSt} (H : BufAt w b l) (addr wide : Int) (ha : 0 ≤ addr ∧ addr < 4294967296) : Calls Try.prog 11 #[.pointer (some ⟨b, 0, none⟩), .int .u32 addr, .int .i64 wide] w (Ret fun v w' => v = .tuple #[.int .u32 (fwd l addr wide).1, .int .i64 (fwd l addr wide).2] ∧ New w w') := by
  have hF := Only.refl (fun _ => False) w
  refine fx_enterM Try.func11 rfl (N := (73, [])) (T := [(0, .pointer (some ⟨b, 0, none⟩)), (1, .int .u32 addr), (2, .int .i64 wide)]) rfl (show 3 ≤ 73 by decide) ⟨rfl, rfl, rfl, trivial⟩ fun a fr => ?_
  refine wp_seq ?_
  refine wp_region_lit ?_  -- region 0
  refine fx_new fr rfl rfl (by first | decide | simp) (x_box (cs := #[.int .i64 wide]) rfl (fr.ev rfl) rfl) ?_
  clear fr a
  intro b1 w2 hN3 B4 hb5 a fr
  have ne_b_b1 : NE b b1 := NE.mk (Nat.lt_of_lt_of_le H.lt hb5)
  have g_b1 := Nat.le_trans hF.size hb5
  replace H := H.new hN3
  replace hF := hF.trNew hN3
  refine fx_new fr rfl rfl (by first | decide | simp) (x_alloc (z := .int .u32 0) (cs := #[.int .u32 0]) rfl (by kernel_rfl) rfl) ?_
  clear fr a
  intro b6 w7 hN8 B9 hb10 a fr
  have ne_b_b6 : NE b b6 := NE.mk (Nat.lt_of_lt_of_le H.lt hb10)
  have ne_b1_b6 : NE b1 b6 := NE.mk (Nat.lt_of_lt_of_le B4.lt hb10)
  have g_b6 := Nat.le_trans hF.size hb10
  replace H := H.new hN8
  replace B4 := B4.new hN8
  replace hF := hF.trNew hN8
  refine fx_new fr rfl rfl (by first | decide | simp) (x_alloc (z := .int .i64 0) (cs := #[.int .i64 0]) rfl (by kernel_rfl) rfl) ?_
  clear fr a
  intro b11 w12 hN13 B14 hb15 a fr
  have ne_b_b11 : NE b b11 := NE.mk (Nat.lt_of_lt_of_le H.lt hb15)
  have ne_b1_b11 : NE b1 b11 := NE.mk (Nat.lt_of_lt_of_le B4.lt hb15)
  have ne_b6_b11 : NE b6 b11 := NE.mk (Nat.lt_of_lt_of_le B9.lt hb15)
  have g_b11 := Nat.le_trans hF.size hb15
  replace H := H.new hN13
  replace B4 := B4.new hN13
  replace B9 := B9.new hN13
  replace hF := hF.trNew hN13
  refine wpList_nil ?_
  refine fx_next ?_
  refine wp_seq ?_
  refine wp_seq ?_
  rcases w_cases wide with hq | hq | hq | hq
  · skip
    refine wp_region_lit ?_  -- region 1
    refine fx_val (v := .int .i64 wide) fr rfl rfl (by first | decide | simp) (x_load1 pl3 rfl (fr.ev rfl) (B4.cell 0 rfl)) ?_
    clear fr a; intro a fr
    refine fx_call fr rfl rfl (by first | decide | simp) (x_call (vs := [.int .i64 wide]) rfl rfl ⟨(fr.ev rfl), trivial⟩ Try.func27 nm27 rfl) (width_c wide _) ?_
    clear fr a
    rintro v w9 ⟨rfl, hw9⟩ a fr
    obtain rfl := hw9.symm
    rw [show wOk wide = true from (by first | rfl | (rw [show wide = 1 by omega]; rfl))] at fr
    refine fx_val (v := .bool false) fr rfl rfl (by first | decide | simp) (x_not rfl (fr.ev rfl) rfl) ?_
    clear fr a; intro a fr
    refine fx_val (v := .bool false) fr rfl rfl (by first | decide | simp) (x_move rfl (fr.ev rfl)) ?_
    clear fr a; intro a fr
    refine fx_val (v := .int .u32 addr) fr (fr.want rfl rfl rfl) rfl (by first | decide | simp) (x_move rfl (fr.ev rfl)) ?_
    clear fr a; intro a fr
    refine fx_val (v := .int .i64 wide) fr (fr.want rfl rfl rfl) rfl (by first | decide | simp) (x_load1 pl3 rfl (fr.ev rfl) (B4.cell 0 rfl)) ?_
    clear fr a; intro a fr
    refine fx_val (v := .int .u32 1) fr (fr.want rfl rfl rfl) rfl (by first | decide | simp) (x_convert Try.underlying3 Try.underlying22 rfl (fr.ev rfl) (u32w (r := 1) (by omega) (by omega))) ?_
    clear fr a; intro a fr
    refine fx_val (v := .int .u32 (addr % 1)) fr (fr.want rfl rfl rfl) rfl (by first | decide | simp) (x_rem rfl (fr.ev rfl) (fr.ev rfl) (by omega) (r := addr % 1) (by first | exact rem_nn (by omega) | (rw [show 1 = 1 by omega]; exact rem_nn (by omega)))) ?_
    clear fr a; intro a fr
    refine fx_val (v := .bool (decide (addr % 1 ≠ 0))) fr (fr.want rfl rfl rfl) rfl (by first | decide | simp) (x_neq rfl (fr.ev rfl) rfl rfl) ?_
    clear fr a; intro a fr
    refine fx_val (v := .bool (decide (addr % 1 ≠ 0))) fr rfl rfl (by first | decide | simp) (x_pick_f rfl (fr.ev rfl) (fr.ev rfl)) ?_
    clear fr a; intro a fr
    refine wpList_nil ?_
    refine fx_next ?_
    refine fx_cond fr rfl (fun hc18 => ?_) (fun hc18 => ?_)
    · skip
      have hc18 := of_decide_eq_true hc18
      refine wp_seq ?_
      refine wp_region_lit ?_  -- region 2
      refine fx_store1 sz22 rfl rfl rfl (fr.ev rfl) rfl rfl B9 (show 0 < 1 by decide) (cs' := #[.int .u32 0]) rfl fun w19 hO20 hBq => ?_
      replace H := H.only hO20 (by first | exact ne_b_b6 | exact ne_b6_b.symm | (show ¬ b = b6; omega))
      replace B4 := B4.only hO20 (by first | exact ne_b1_b6 | exact ne_b6_b1.symm | (show ¬ b1 = b6; omega))
      replace B14 := B14.only hO20 (by first | exact ne_b11_b6 | exact ne_b6_b11.symm | (show ¬ b11 = b6; omega))
      replace hF := hF.loc hO20 (.inr g_b6)
      replace B9 := hBq
      clear hBq
      refine fx_store1 sz29 rfl rfl rfl (fr.ev rfl) rfl rfl B14 (show 0 < 1 by decide) (cs' := #[.int .i64 0]) rfl fun w21 hO22 hBq => ?_
      replace H := H.only hO22 (by first | exact ne_b_b11 | exact ne_b11_b.symm | (show ¬ b = b11; omega))
      replace B4 := B4.only hO22 (by first | exact ne_b1_b11 | exact ne_b11_b1.symm | (show ¬ b1 = b11; omega))
      replace B9 := B9.only hO22 (by first | exact ne_b6_b11 | exact ne_b11_b6.symm | (show ¬ b6 = b11; omega))
      replace hF := hF.loc hO22 (.inr g_b11)
      replace B14 := hBq
      clear hBq
      refine wpList_nil ?_
      refine fx_next ?_
      refine wp_ret ?_
      refine fx_rt ?_
      refine fx_retM0 fr [.cell 6 22, .cell 7 29] [.int .u32 0, .int .i64 0] rfl ⟨⟨_, rfl, x_loadV1 pl22 (B9.cell 0 rfl)⟩, ⟨_, rfl, x_loadV1 pl29 (B14.cell 0 rfl)⟩, trivial⟩ rfl ?_
      have hf : fwd l addr wide = (0, 0) := by unfold fwd; rw [if_neg (fun h => by have := h.2; rw [hq] at this; omega)]
      rw [hf]
      exact ⟨_, rfl, rfl, hF⟩
    · skip
      have hc18 := of_decide_eq_false hc18
      refine wp_skip ?_
      refine fx_next ?_
      refine wp_seq ?_
      refine wp_region_lit ?_  -- region 3
      refine fx_val (v := .int .u32 addr) fr rfl rfl (by first | decide | simp) (x_move rfl (fr.ev rfl)) ?_
      clear fr a; intro a fr
      refine fx_val (v := .int .i64 wide) fr rfl rfl (by first | decide | simp) (x_load1 pl3 rfl (fr.ev rfl) (B4.cell 0 rfl)) ?_
      clear fr a; intro a fr
      refine fx_val (v := .agg (stE.arr (mkS addr wide 0))) fr rfl rfl (by first | decide | simp) (x_build (cells := stE.arr (mkS addr wide 0)) rfl (by simp only [List.map_toArray, List.map_cons, List.map_nil, show a.eval (.tmp 21) = .int .u32 addr from fr.ev rfl, show a.eval (.tmp 22) = .int .i64 wide from fr.ev rfl]; kernel_rfl)) ?_
      clear fr a; intro a fr
      refine fx_val (v := .agg (wE.arr (mkS addr wide 0))) fr rfl rfl (by first | decide | simp) (x_build (cells := wE.arr (mkS addr wide 0)) rfl (by simp only [List.map_toArray, List.map_cons, List.map_nil, show a.eval (.tmp 23) = .agg (stE.arr (mkS addr wide 0)) from fr.ev rfl]; kernel_rfl)) ?_
      clear fr a; intro a fr
      refine fx_new fr rfl rfl (by first | decide | simp) (x_alloc (z := .agg (#[.int .u32 0, .int .i64 0, .int .u32 0])) (cs := wE.arr st0) rfl (by kernel_rfl) rfl) ?_
      clear fr a
      intro b23 w24 hN25 B26 hb27 a fr
      have ne_b_b23 : NE b b23 := NE.mk (Nat.lt_of_lt_of_le H.lt hb27)
      have ne_b1_b23 : NE b1 b23 := NE.mk (Nat.lt_of_lt_of_le B4.lt hb27)
      have ne_b6_b23 : NE b6 b23 := NE.mk (Nat.lt_of_lt_of_le B9.lt hb27)
      have ne_b11_b23 : NE b11 b23 := NE.mk (Nat.lt_of_lt_of_le B14.lt hb27)
      have g_b23 := Nat.le_trans hF.size hb27
      replace H := H.new hN25
      replace B4 := B4.new hN25
      replace B9 := B9.new hN25
      replace B14 := B14.new hN25
      replace hF := hF.trNew hN25
      refine fx_storeS sz60 rfl rfl rfl (fr.ev rfl) (fr.ev rfl) (wE.all _) B26 (wE.size _) (wE.size _) fun w28 hO29 hBq => ?_
      replace H := H.only hO29 (by first | exact ne_b_b23 | exact ne_b23_b.symm | (show ¬ b = b23; omega))
      replace B4 := B4.only hO29 (by first | exact ne_b1_b23 | exact ne_b23_b1.symm | (show ¬ b1 = b23; omega))
      replace B9 := B9.only hO29 (by first | exact ne_b6_b23 | exact ne_b23_b6.symm | (show ¬ b6 = b23; omega))
      replace B14 := B14.only hO29 (by first | exact ne_b11_b23 | exact ne_b23_b11.symm | (show ¬ b11 = b23; omega))
      replace hF := hF.loc hO29 (.inr g_b23)
      replace B26 := hBq
      clear hBq
      refine wpList_nil ?_
      refine fx_next ?_
      refine wp_seq ?_
      refine wp_seq ?_
      refine wp_region_lit ?_  -- region 4
      refine fx_val (v := .pointer (some ⟨b, 0, none⟩)) fr rfl rfl (by first | decide | simp) (x_move rfl (fr.ev rfl)) ?_
      clear fr a; intro a fr
      refine fx_call fr rfl rfl (by first | decide | simp) (x_call (vs := [.pointer (some ⟨b, 0, none⟩)]) rfl rfl ⟨(fr.ev rfl), trivial⟩ Try.func28 nm28 rfl) (back_c _) ?_
      clear fr a
      rintro v w33 ⟨bn30, rfl, Bn31, hb32, hN34⟩ a fr
      have ne_b_bn30 : NE b bn30 := NE.mk (Nat.lt_of_lt_of_le H.lt hb32)
      have ne_b1_bn30 : NE b1 bn30 := NE.mk (Nat.lt_of_lt_of_le B4.lt hb32)
      have ne_b6_bn30 : NE b6 bn30 := NE.mk (Nat.lt_of_lt_of_le B9.lt hb32)
      have ne_b11_bn30 : NE b11 bn30 := NE.mk (Nat.lt_of_lt_of_le B14.lt hb32)
      have ne_b23_bn30 : NE b23 bn30 := NE.mk (Nat.lt_of_lt_of_le B26.lt hb32)
      have g_bn30 := Nat.le_trans hF.size hb32
      replace H := H.new hN34
      replace B4 := B4.new hN34
      replace B9 := B9.new hN34
      replace B14 := B14.new hN34
      replace B26 := B26.new hN34
      replace hF := hF.trNew hN34
      refine wpList_nil ?_
      refine fx_next ?_
      refine wp_block ?_
      have lt_b1 := B4.lt
      have lt_b23 := B26.lt
      have lt_b6 := B9.lt
      have lt_b11 := B14.lt
      refine fx_range (xs := l.reverse) (e := fun x : VSt => Value.agg (stE.arr x.1)) fr rfl (by decide) (enters_of Try.func37 nm37 rfl) (SI := fun k => k = b6 ∨ k = b11 ∨ w33.heap.size ≤ k) (fun _ h => Or.inr (Or.inr (h))) (all_stops H Bn31 (fun h => h.elim (by first | exact ne_bn30_b6 | exact ne_b6_bn30.symm | (show ¬ bn30 = b6; omega)) (fun h => h.elim (by first | exact ne_bn30_b11 | exact ne_b11_bn30.symm | (show ¬ bn30 = b11; omega)) (fun h => by have := Bn31.lt; omega))) (fun h => h.elim (by first | exact ne_b_b6 | exact ne_b6_b.symm | (show ¬ b = b6; omega)) (fun h => h.elim (by first | exact ne_b_b11 | exact ne_b11_b.symm | (show ¬ b = b11; omega)) (fun h => by have := H.lt; omega)))) (fun pre W => Blk W b1 3 (#[.int .i64 wide]) ∧ Blk W b23 60 (wE.arr (mkS addr wide 0)) ∧ Blk W b6 22 #[.int .u32 0] ∧ Blk W b11 29 #[.int .i64 0] ∧ Only (fun k => k = b6 ∨ k = b11) w33 W ∧ ∀ y ∈ pre, fwd1 addr wide y.1 = none) (fun c pre W => (c = .ret ∧ ∃ n : Int, ∃ k : Int, Blk W b1 3 (#[.int .i64 wide]) ∧ Blk W b23 60 (wE.arr (mkS addr wide 0)) ∧ Blk W b6 22 #[.int .u32 n] ∧ Blk W b11 29 #[.int .i64 k] ∧ Only (fun k => k = b6 ∨ k = b11) w33 W ∧ FStop addr wide pre (n, k))) (fun x a' W => ∃ b35 : Nat, Blk W b35 60 (wE.arr x.1) ∧ w33.heap.size ≤ b35 ∧ Fr (73, []) [(0, .pointer (some ⟨b, 0, none⟩)), (1, .int .u32 addr), (2, .int .i64 wide), (5, .pointer (some ⟨b1, 0, none⟩)), (6, .pointer (some ⟨b6, 0, none⟩)), (7, .pointer (some ⟨b11, 0, none⟩)), (11, .int .i64 wide), (12, .bool true), (13, .bool false), (14, .bool false), (15, .int .u32 addr), (16, .int .i64 wide), (17, .int .u32 1), (18, .int .u32 (addr % 1)), (19, .bool (decide (addr % 1 ≠ 0))), (20, .bool (decide (addr % 1 ≠ 0))), (21, .int .u32 addr), (22, .int .i64 wide), (23, .agg (stE.arr (mkS addr wide 0))), (24, .agg (wE.arr (mkS addr wide 0))), (8, .pointer (some ⟨b23, 0, none⟩)), (25, .pointer (some ⟨b, 0, none⟩)), (26, .func (.func 37) #[] #[.pointer (some ⟨bn30, 0, none⟩)]), (27, .agg (wE.arr x.1)), (9, .pointer (some ⟨b35, 0, none⟩))] a') ?_ ?_ ?_ ?_ ⟨B4, B26, B9, B14, Only.refl _ _, (fun y hy => by simp at hy)⟩ ?_ ?_ ?_ ?_
      · rintro pre W W' ⟨B4, B26, B6, B7, hC, hno⟩ hT; exact ⟨B4.turn hT, B26.turn hT, B6.turn hT, B7.turn hT, hC.turn hT (Nat.le_refl _), hno⟩
      · rintro c pre W W' (⟨rfl, n, k, B4, B26, B6, B7, hC, hst⟩) hT
        exact ⟨rfl, n, k, B4.turn hT, B26.turn hT, B6.turn hT, B7.turn hT, hC.turn hT (Nat.le_refl _), hst⟩
      · rintro x a' _ W W' ⟨b35, B38, h_b35, hf⟩ hT; exact ⟨b35, B38.turn hT, h_b35, hf⟩
      · rintro pre W W' ⟨B4, B26, B6, B7, hC, hno⟩ hN; exact ⟨B4.new hN, B26.new hN, B6.new hN, B7.new hN, hC.trNew hN, hno⟩
      · skip
        rintro l pre x W K ⟨B4, B26, B6, B7, hC, hno⟩ hK a fr
        have hF := Only.refl (fun _ => False) W
        refine fxr_region (by kernel_rfl) (by rintro ⟨_, _, h⟩; exact h) ?_  -- region 5
        refine fx_new fr rfl rfl (by first | decide | simp) (x_alloc (z := .agg (#[.int .u32 0, .int .i64 0, .int .u32 0])) (cs := wE.arr st0) rfl (by kernel_rfl) rfl) ?_
        clear fr a
        intro b35 w36 hN37 B38 hb39 a fr
        have g_b35 := Nat.le_trans hF.size hb39
        replace hF := hF.trNew hN37
        refine fx_storeS sz60 rfl rfl rfl (fr.ev rfl) (fr.ev rfl) (wE.all _) B38 (wE.size _) (wE.size _) fun w40 hO41 hBq => ?_
        replace hF := hF.loc hO41 (.inr g_b35)
        replace B38 := hBq
        clear hBq
        refine wpList_nil ?_
        refine hK _ _ hF ⟨b35, B38, Nat.le_trans hC.size g_b35, fr.sub ⟨rfl, rfl, rfl, rfl, rfl, rfl, rfl, rfl, rfl, rfl, rfl, rfl, rfl, rfl, rfl, rfl, rfl, rfl, rfl, rfl, rfl, rfl, rfl, rfl, rfl, trivial⟩⟩
      · skip
        rintro lq pre x a W ⟨B4, B26, B6, B7, hC, hno⟩ ⟨b35, B38, h_b35, fr⟩ hlen
        have ne_b1_b35 : NE b1 b35 := NE.mk (Nat.lt_of_lt_of_le lt_b1 h_b35)
        have ne_b23_b35 : NE b23 b35 := NE.mk (Nat.lt_of_lt_of_le lt_b23 h_b35)
        have ne_b6_b35 : NE b6 b35 := NE.mk (Nat.lt_of_lt_of_le lt_b6 h_b35)
        have ne_b11_b35 : NE b11 b35 := NE.mk (Nat.lt_of_lt_of_le lt_b11 h_b35)
        have cl_b6 := B6.cells
        have cl_b11 := B7.cells
        have hF := Only.refl (fun k => k = b6 ∨ k = b11) W
        have hcl : ∀ k, k < W.heap.size → (fun k => k = b6 ∨ k = b11) k → (fun k => k = b6 ∨ k = b11 ∨ w33.heap.size ≤ k) k ∧ ∃ o : Obj, W.heap[k]? = some o ∧ o.isCells = true := by
          rintro k _ (rfl | rfl)
          · exact ⟨Or.inl rfl, cl_b6⟩
          · exact ⟨Or.inr (Or.inl rfl), cl_b11⟩
        have hSS : ∀ k, k < w33.heap.size → (fun k => k = b6 ∨ k = b11) k → (fun k => k = b6 ∨ k = b11) k := by
          rintro k hk (rfl | rfl)
          · exact Or.inl rfl
          · exact Or.inr (rfl)
        obtain ⟨hxs, hxm⟩ := x.spec
        have hxa := x.1.ha
        have hxv := x.1.hv
        refine wpIn_block ?_
        refine wpIn_seq ?_
        refine wpIn_block ?_
        refine wpIn_seq ?_
        refine fxr_held (k := 13) (by kernel_rfl) (by rintro ⟨_, _, h⟩; exact h) (fun w => Blk w b1 3 (#[.int .i64 wide]) ∧ Blk w b23 60 (wE.arr (mkS addr wide 0)) ∧ Blk w b6 22 #[.int .u32 0] ∧ Blk w b11 29 #[.int .i64 0] ∧ Blk w b35 60 (wE.arr x.1) ∧ True) (by kernel_rfl) rfl ?_  -- region 6
        intro w42 hN43
        replace B4 := B4.new hN43
        replace B26 := B26.new hN43
        replace B6 := B6.new hN43
        replace B7 := B7.new hN43
        replace B38 := B38.new hN43
        replace hF := hF.trNew hN43
        refine fx_take (i := 0) (v := .agg (wE.arr (mkS addr wide 0))) fr rfl (by kernel_rfl) rfl rfl (by first | decide | simp) (fun _ _ _ h => h) (fun _ ⟨B4, B26, B6, B7, B38, _⟩ => x_loadE (E := wE) ag60 rfl rfl (fr.ev rfl) (B26.rangeE (P := Try.prog) wE)) ⟨B4, B26, B6, B7, B38, trivial⟩ ?_
        clear fr a; intro a fr
        refine fx_take (i := 2) (v := .agg (wE.arr x.1)) fr rfl (by kernel_rfl) rfl rfl (by first | decide | simp) (fun _ _ _ h => h) (fun _ ⟨B4, B26, B6, B7, B38, _⟩ => x_loadE (E := wE) ag60 rfl rfl (fr.ev rfl) (B38.rangeE (P := Try.prog) wE)) ⟨B4, B26, B6, B7, B38, trivial⟩ ?_
        clear fr a; intro a fr
        refine fx_one (i := 1) (by kernel_rfl) (fx_op rfl ?_)
        refine fx_call fr rfl rfl (by first | decide | simp) (x_call (vs := [.agg (wE.arr (mkS addr wide 0))]) rfl rfl ⟨(fr.ev rfl), trivial⟩ Try.func29 nm29 rfl) (until_c (mkS addr wide 0) _ (by show 1 ≤ wide ∧ wide ≤ 4; omega)) ?_
        clear fr a
        rintro v w44 ⟨rfl, hN45⟩ a fr
        replace B4 := B4.new hN45
        replace B26 := B26.new hN45
        replace B6 := B6.new hN45
        replace B7 := B7.new hN45
        replace B38 := B38.new hN45
        replace hF := hF.trNew hN45
        refine wpList_nil ?_
        refine ⟨⟨B4, B26, B6, B7, B38, trivial⟩, ?_⟩
        refine fx_one (i := 3) (by kernel_rfl) (fx_op rfl ?_)
        refine fx_call fr rfl rfl (by first | decide | simp) (x_call (vs := [.agg (wE.arr x.1)]) rfl rfl ⟨(fr.ev rfl), trivial⟩ Try.func30 nm30 rfl) (from_c x.1 _) ?_
        clear fr a
        rintro v w46 ⟨rfl, hN47⟩ a fr
        replace B4 := B4.new hN47
        replace B26 := B26.new hN47
        replace B6 := B6.new hN47
        replace B7 := B7.new hN47
        replace B38 := B38.new hN47
        replace hF := hF.trNew hN47
        refine wpList_nil ?_
        refine ⟨⟨B4, B26, B6, B7, B38, trivial⟩, ?_⟩
        refine fx_take (i := 4) (v := .bool (decide (addr + wide ≤ x.1.addr))) fr rfl (by kernel_rfl) rfl rfl (by first | decide | simp) (fun _ _ _ h => h) (fun _ ⟨B4, B26, B6, B7, B38, _⟩ => x_leq rfl (fr.ev rfl) (fr.ev rfl) rfl) ⟨B4, B26, B6, B7, B38, trivial⟩ ?_
        clear fr a; intro a fr
        refine fx_take (i := 5) (v := .bool (decide (addr + wide ≤ x.1.addr))) fr rfl (by kernel_rfl) rfl rfl (by first | decide | simp) (fun _ _ _ h => h) (fun _ ⟨B4, B26, B6, B7, B38, _⟩ => x_move rfl (fr.ev rfl)) ⟨B4, B26, B6, B7, B38, trivial⟩ ?_
        clear fr a; intro a fr
        refine fx_takemay (i := 6) (g := !(decide (addr + wide ≤ x.1.addr))) (v := .agg (wE.arr x.1)) fr rfl (by kernel_rfl) rfl rfl rfl (by simp) rfl (by first | decide | simp) (fun _ _ _ _ h => h) (fun hg _ ⟨B4, B26, B6, B7, B38, _⟩ => x_loadE (E := wE) ag60 rfl rfl (fr.ev rfl) (B38.rangeE (P := Try.prog) wE)) ⟨B4, B26, B6, B7, B38, trivial⟩ ?_
        clear fr a; intro a fr
        refine fx_takemay (i := 8) (g := !(decide (addr + wide ≤ x.1.addr))) (v := .agg (wE.arr (mkS addr wide 0))) fr rfl (by kernel_rfl) rfl rfl rfl (by simp) rfl (by first | decide | simp) (fun _ _ _ _ h => h) (fun hg _ ⟨B4, B26, B6, B7, B38, _⟩ => x_loadE (E := wE) ag60 rfl rfl (fr.ev rfl) (B26.rangeE (P := Try.prog) wE)) ⟨B4, B26, B6, B7, B38, trivial⟩ ?_
        clear fr a; intro a fr
        refine fx_one (i := 7) (by kernel_rfl) (fx_op rfl ?_)
        rcases Bool.eq_false_or_eq_true (decide (addr + wide ≤ x.1.addr)) with hc48 | hc48
        · skip
          rw [hc48] at fr
          have hc48 := of_decide_eq_true hc48
          refine fx_skip fr (fr.unwant rfl rfl rfl (by decide)) rfl (by first | decide | simp) ?_
          clear fr a; intro a fr
          refine wpList_nil ?_
          refine ⟨⟨B4, B26, B6, B7, B38, trivial⟩, ?_⟩
          refine fx_takeskip (i := 9) fr rfl (by kernel_rfl) (fr.unwant rfl rfl rfl (by decide)) rfl (by first | decide | simp) (fun _ _ _ h => h) ⟨B4, B26, B6, B7, B38, trivial⟩ ?_
          clear fr a; intro a fr
          refine fx_takeskip (i := 10) fr rfl (by kernel_rfl) (fr.unwant rfl rfl rfl (by decide)) rfl (by first | decide | simp) (fun _ _ _ h => h) ⟨B4, B26, B6, B7, B38, trivial⟩ ?_
          clear fr a; intro a fr
          refine fx_take (i := 11) (v := .bool true) fr rfl (by kernel_rfl) rfl rfl (by first | decide | simp) (fun _ _ _ h => h) (fun _ ⟨B4, B26, B6, B7, B38, _⟩ => x_pick_t rfl (fr.ev rfl) rfl) ⟨B4, B26, B6, B7, B38, trivial⟩ ?_
          clear fr a; intro a fr
          refine fx_take (i := 12) (v := .bool true) fr rfl (by kernel_rfl) rfl rfl (by first | decide | simp) (fun _ _ _ h => h) (fun _ ⟨B4, B26, B6, B7, B38, _⟩ => x_assign rfl (fr.ev rfl)) ⟨B4, B26, B6, B7, B38, trivial⟩ ?_
          clear fr a; intro a fr
          refine fx_hdone (by kernel_rfl) ?_
          refine fx_next ?_
          refine fxr_cond_t fr rfl ?_
          refine wpIn_exit ?_
          refine fx_xb (by decide) ?_
          refine fx_xt ?_
          refine fx_xx ?_
          exact ⟨⟨_, hF, hcl⟩, B4, B26, B6, B7, hC.trans hF hSS, (fno_step hno (fwd1_none (by omega)))⟩
        · skip
          rw [hc48] at fr
          have hc48 := of_decide_eq_false hc48
          refine fx_call fr (fr.want rfl rfl rfl) rfl (by first | decide | simp) (x_call (vs := [.agg (wE.arr x.1)]) rfl rfl ⟨((fr.ev rfl).trans (onlyIf_t rfl)), trivial⟩ Try.func29 nm29 rfl) (until_c x.1 _ (by omega)) ?_
          clear fr a
          rintro v w49 ⟨rfl, hN50⟩ a fr
          replace B4 := B4.new hN50
          replace B26 := B26.new hN50
          replace B6 := B6.new hN50
          replace B7 := B7.new hN50
          replace B38 := B38.new hN50
          replace hF := hF.trNew hN50
          refine wpList_nil ?_
          refine ⟨⟨B4, B26, B6, B7, B38, trivial⟩, ?_⟩
          refine fx_one (i := 9) (by kernel_rfl) (fx_op rfl ?_)
          refine fx_call fr (fr.want rfl rfl rfl) rfl (by first | decide | simp) (x_call (vs := [.agg (wE.arr (mkS addr wide 0))]) rfl rfl ⟨((fr.ev rfl).trans (onlyIf_t rfl)), trivial⟩ Try.func30 nm30 rfl) (from_c (mkS addr wide 0) _) ?_
          clear fr a
          rintro v w51 ⟨rfl, hN52⟩ a fr
          replace B4 := B4.new hN52
          replace B26 := B26.new hN52
          replace B6 := B6.new hN52
          replace B7 := B7.new hN52
          replace B38 := B38.new hN52
          replace hF := hF.trNew hN52
          refine wpList_nil ?_
          refine ⟨⟨B4, B26, B6, B7, B38, trivial⟩, ?_⟩
          refine fx_take (i := 10) (v := .bool (decide (x.1.addr + x.1.width ≤ addr))) fr rfl (by kernel_rfl) (fr.want rfl rfl rfl) rfl (by first | decide | simp) (fun _ _ _ h => h) (fun _ ⟨B4, B26, B6, B7, B38, _⟩ => x_leq rfl (fr.ev rfl) (fr.ev rfl) rfl) ⟨B4, B26, B6, B7, B38, trivial⟩ ?_
          clear fr a; intro a fr
          refine fx_take (i := 11) (v := .bool (decide (x.1.addr + x.1.width ≤ addr))) fr rfl (by kernel_rfl) rfl rfl (by first | decide | simp) (fun _ _ _ h => h) (fun _ ⟨B4, B26, B6, B7, B38, _⟩ => x_pick_f rfl (fr.ev rfl) (fr.ev rfl)) ⟨B4, B26, B6, B7, B38, trivial⟩ ?_
          clear fr a; intro a fr
          refine fx_take (i := 12) (v := .bool (decide (x.1.addr + x.1.width ≤ addr))) fr rfl (by kernel_rfl) rfl rfl (by first | decide | simp) (fun _ _ _ h => h) (fun _ ⟨B4, B26, B6, B7, B38, _⟩ => x_assign rfl (fr.ev rfl)) ⟨B4, B26, B6, B7, B38, trivial⟩ ?_
          clear fr a; intro a fr
          refine fx_hdone (by kernel_rfl) ?_
          refine fx_next ?_
          refine fxr_cond fr rfl (fun hc53 => ?_) (fun hc53 => ?_)
          · skip
            have hc53 := of_decide_eq_true hc53
            refine wpIn_exit ?_
            refine fx_xb (by decide) ?_
            refine fx_xt ?_
            refine fx_xx ?_
            exact ⟨⟨_, hF, hcl⟩, B4, B26, B6, B7, hC.trans hF hSS, (fno_step hno (fwd1_none (by omega)))⟩
          · skip
            have hc53 := of_decide_eq_false hc53
            refine wpIn_seq ?_
            refine fxr_held (k := 13) (by kernel_rfl) (by rintro ⟨_, _, h⟩; exact h) (fun w => Blk w b1 3 (#[.int .i64 wide]) ∧ Blk w b23 60 (wE.arr (mkS addr wide 0)) ∧ Blk w b6 22 #[.int .u32 0] ∧ Blk w b11 29 #[.int .i64 0] ∧ Blk w b35 60 (wE.arr x.1) ∧ True) (by kernel_rfl) rfl ?_  -- region 7
            intro w54 hN55
            replace B4 := B4.new hN55
            replace B26 := B26.new hN55
            replace B6 := B6.new hN55
            replace B7 := B7.new hN55
            replace B38 := B38.new hN55
            replace hF := hF.trNew hN55
            refine fx_take (i := 0) (v := .agg (wE.arr (mkS addr wide 0))) fr rfl (by kernel_rfl) rfl rfl (by first | decide | simp) (fun _ _ _ h => h) (fun _ ⟨B4, B26, B6, B7, B38, _⟩ => x_loadE (E := wE) ag60 rfl rfl (fr.ev rfl) (B26.rangeE (P := Try.prog) wE)) ⟨B4, B26, B6, B7, B38, trivial⟩ ?_
            clear fr a; intro a fr
            refine fx_take (i := 2) (v := .agg (wE.arr x.1)) fr rfl (by kernel_rfl) rfl rfl (by first | decide | simp) (fun _ _ _ h => h) (fun _ ⟨B4, B26, B6, B7, B38, _⟩ => x_loadE (E := wE) ag60 rfl rfl (fr.ev rfl) (B38.rangeE (P := Try.prog) wE)) ⟨B4, B26, B6, B7, B38, trivial⟩ ?_
            clear fr a; intro a fr
            refine fx_one (i := 1) (by kernel_rfl) (fx_op rfl ?_)
            refine fx_call fr rfl rfl (by first | decide | simp) (x_call (vs := [.agg (wE.arr (mkS addr wide 0))]) rfl rfl ⟨(fr.ev rfl), trivial⟩ Try.func30 nm30 rfl) (from_c (mkS addr wide 0) _) ?_
            clear fr a
            rintro v w56 ⟨rfl, hN57⟩ a fr
            replace B4 := B4.new hN57
            replace B26 := B26.new hN57
            replace B6 := B6.new hN57
            replace B7 := B7.new hN57
            replace B38 := B38.new hN57
            replace hF := hF.trNew hN57
            refine wpList_nil ?_
            refine ⟨⟨B4, B26, B6, B7, B38, trivial⟩, ?_⟩
            refine fx_one (i := 3) (by kernel_rfl) (fx_op rfl ?_)
            refine fx_call fr rfl rfl (by first | decide | simp) (x_call (vs := [.agg (wE.arr x.1)]) rfl rfl ⟨(fr.ev rfl), trivial⟩ Try.func30 nm30 rfl) (from_c x.1 _) ?_
            clear fr a
            rintro v w58 ⟨rfl, hN59⟩ a fr
            replace B4 := B4.new hN59
            replace B26 := B26.new hN59
            replace B6 := B6.new hN59
            replace B7 := B7.new hN59
            replace B38 := B38.new hN59
            replace hF := hF.trNew hN59
            refine wpList_nil ?_
            refine ⟨⟨B4, B26, B6, B7, B38, trivial⟩, ?_⟩
            refine fx_take (i := 4) (v := .bool (decide (addr < x.1.addr))) fr rfl (by kernel_rfl) rfl rfl (by first | decide | simp) (fun _ _ _ h => h) (fun _ ⟨B4, B26, B6, B7, B38, _⟩ => x_lss rfl (fr.ev rfl) (fr.ev rfl) rfl) ⟨B4, B26, B6, B7, B38, trivial⟩ ?_
            clear fr a; intro a fr
            refine fx_take (i := 5) (v := .bool (decide (addr < x.1.addr))) fr rfl (by kernel_rfl) rfl rfl (by first | decide | simp) (fun _ _ _ h => h) (fun _ ⟨B4, B26, B6, B7, B38, _⟩ => x_move rfl (fr.ev rfl)) ⟨B4, B26, B6, B7, B38, trivial⟩ ?_
            clear fr a; intro a fr
            refine fx_takemay (i := 6) (g := !(decide (addr < x.1.addr))) (v := .agg (wE.arr x.1)) fr rfl (by kernel_rfl) rfl rfl rfl (by simp) rfl (by first | decide | simp) (fun _ _ _ _ h => h) (fun hg _ ⟨B4, B26, B6, B7, B38, _⟩ => x_loadE (E := wE) ag60 rfl rfl (fr.ev rfl) (B38.rangeE (P := Try.prog) wE)) ⟨B4, B26, B6, B7, B38, trivial⟩ ?_
            clear fr a; intro a fr
            refine fx_takemay (i := 8) (g := !(decide (addr < x.1.addr))) (v := .agg (wE.arr (mkS addr wide 0))) fr rfl (by kernel_rfl) rfl rfl rfl (by simp) rfl (by first | decide | simp) (fun _ _ _ _ h => h) (fun hg _ ⟨B4, B26, B6, B7, B38, _⟩ => x_loadE (E := wE) ag60 rfl rfl (fr.ev rfl) (B26.rangeE (P := Try.prog) wE)) ⟨B4, B26, B6, B7, B38, trivial⟩ ?_
            clear fr a; intro a fr
            refine fx_one (i := 7) (by kernel_rfl) (fx_op rfl ?_)
            rcases Bool.eq_false_or_eq_true (decide (addr < x.1.addr)) with hc60 | hc60
            · skip
              rw [hc60] at fr
              have hc60 := of_decide_eq_true hc60
              refine fx_skip fr (fr.unwant rfl rfl rfl (by decide)) rfl (by first | decide | simp) ?_
              clear fr a; intro a fr
              refine wpList_nil ?_
              refine ⟨⟨B4, B26, B6, B7, B38, trivial⟩, ?_⟩
              refine fx_takeskip (i := 9) fr rfl (by kernel_rfl) (fr.unwant rfl rfl rfl (by decide)) rfl (by first | decide | simp) (fun _ _ _ h => h) ⟨B4, B26, B6, B7, B38, trivial⟩ ?_
              clear fr a; intro a fr
              refine fx_takeskip (i := 10) fr rfl (by kernel_rfl) (fr.unwant rfl rfl rfl (by decide)) rfl (by first | decide | simp) (fun _ _ _ h => h) ⟨B4, B26, B6, B7, B38, trivial⟩ ?_
              clear fr a; intro a fr
              refine fx_take (i := 11) (v := .bool true) fr rfl (by kernel_rfl) rfl rfl (by first | decide | simp) (fun _ _ _ h => h) (fun _ ⟨B4, B26, B6, B7, B38, _⟩ => x_pick_t rfl (fr.ev rfl) rfl) ⟨B4, B26, B6, B7, B38, trivial⟩ ?_
              clear fr a; intro a fr
              refine fx_take (i := 12) (v := .bool true) fr rfl (by kernel_rfl) rfl rfl (by first | decide | simp) (fun _ _ _ h => h) (fun _ ⟨B4, B26, B6, B7, B38, _⟩ => x_assign rfl (fr.ev rfl)) ⟨B4, B26, B6, B7, B38, trivial⟩ ?_
              clear fr a; intro a fr
              refine fx_hdone (by kernel_rfl) ?_
              refine fx_next ?_
              refine fxr_cond_t fr rfl ?_
              refine wpIn_seq ?_
              refine fxr_region (by kernel_rfl) (by rintro ⟨_, _, h⟩; exact h) ?_  -- region 8
              refine fx_store1 sz22 rfl rfl rfl (fr.ev rfl) rfl rfl B6 (show 0 < 1 by decide) (cs' := #[.int .u32 0]) rfl fun w61 hO62 hBq => ?_
              replace B4 := B4.only hO62 (by first | exact ne_b1_b6 | exact ne_b6_b1.symm | (show ¬ b1 = b6; omega))
              replace B26 := B26.only hO62 (by first | exact ne_b23_b6 | exact ne_b6_b23.symm | (show ¬ b23 = b6; omega))
              replace B7 := B7.only hO62 (by first | exact ne_b11_b6 | exact ne_b6_b11.symm | (show ¬ b11 = b6; omega))
              replace B38 := B38.only hO62 (by first | exact ne_b35_b6 | exact ne_b6_b35.symm | (show ¬ b35 = b6; omega))
              replace hF := hF.loc hO62 (.inl (Or.inl rfl))
              replace B6 := hBq
              clear hBq
              refine fx_store1 sz29 rfl rfl rfl (fr.ev rfl) rfl rfl B7 (show 0 < 1 by decide) (cs' := #[.int .i64 2]) rfl fun w63 hO64 hBq => ?_
              replace B4 := B4.only hO64 (by first | exact ne_b1_b11 | exact ne_b11_b1.symm | (show ¬ b1 = b11; omega))
              replace B26 := B26.only hO64 (by first | exact ne_b23_b11 | exact ne_b11_b23.symm | (show ¬ b23 = b11; omega))
              replace B38 := B38.only hO64 (by first | exact ne_b35_b11 | exact ne_b11_b35.symm | (show ¬ b35 = b11; omega))
              replace B6 := B6.only hO64 (by first | exact ne_b6_b11 | exact ne_b11_b6.symm | (show ¬ b6 = b11; omega))
              replace hF := hF.loc hO64 (.inl (Or.inr (rfl)))
              replace B7 := hBq
              clear hBq
              refine wpList_nil ?_
              refine fx_next ?_
              refine wpIn_ret ?_
              refine fx_rb ?_
              refine fx_rt ?_
              refine fx_rb ?_
              exact ⟨⟨_, hF, hcl⟩, ⟨rfl, 0, 2, B4, B26, B6, B7, hC.trans hF hSS, ⟨_, _, rfl, hno, (fwd1_part (by omega) (by omega))⟩⟩⟩
            · skip
              rw [hc60] at fr
              have hc60 := of_decide_eq_false hc60
              refine fx_call fr (fr.want rfl rfl rfl) rfl (by first | decide | simp) (x_call (vs := [.agg (wE.arr x.1)]) rfl rfl ⟨((fr.ev rfl).trans (onlyIf_t rfl)), trivial⟩ Try.func29 nm29 rfl) (until_c x.1 _ (by omega)) ?_
              clear fr a
              rintro v w65 ⟨rfl, hN66⟩ a fr
              replace B4 := B4.new hN66
              replace B26 := B26.new hN66
              replace B6 := B6.new hN66
              replace B7 := B7.new hN66
              replace B38 := B38.new hN66
              replace hF := hF.trNew hN66
              refine wpList_nil ?_
              refine ⟨⟨B4, B26, B6, B7, B38, trivial⟩, ?_⟩
              refine fx_one (i := 9) (by kernel_rfl) (fx_op rfl ?_)
              refine fx_call fr (fr.want rfl rfl rfl) rfl (by first | decide | simp) (x_call (vs := [.agg (wE.arr (mkS addr wide 0))]) rfl rfl ⟨((fr.ev rfl).trans (onlyIf_t rfl)), trivial⟩ Try.func29 nm29 rfl) (until_c (mkS addr wide 0) _ (by show 1 ≤ wide ∧ wide ≤ 4; omega)) ?_
              clear fr a
              rintro v w67 ⟨rfl, hN68⟩ a fr
              replace B4 := B4.new hN68
              replace B26 := B26.new hN68
              replace B6 := B6.new hN68
              replace B7 := B7.new hN68
              replace B38 := B38.new hN68
              replace hF := hF.trNew hN68
              refine wpList_nil ?_
              refine ⟨⟨B4, B26, B6, B7, B38, trivial⟩, ?_⟩
              refine fx_take (i := 10) (v := .bool (decide (x.1.addr + x.1.width < addr + wide))) fr rfl (by kernel_rfl) (fr.want rfl rfl rfl) rfl (by first | decide | simp) (fun _ _ _ h => h) (fun _ ⟨B4, B26, B6, B7, B38, _⟩ => x_lss rfl (fr.ev rfl) (fr.ev rfl) rfl) ⟨B4, B26, B6, B7, B38, trivial⟩ ?_
              clear fr a; intro a fr
              refine fx_take (i := 11) (v := .bool (decide (x.1.addr + x.1.width < addr + wide))) fr rfl (by kernel_rfl) rfl rfl (by first | decide | simp) (fun _ _ _ h => h) (fun _ ⟨B4, B26, B6, B7, B38, _⟩ => x_pick_f rfl (fr.ev rfl) (fr.ev rfl)) ⟨B4, B26, B6, B7, B38, trivial⟩ ?_
              clear fr a; intro a fr
              refine fx_take (i := 12) (v := .bool (decide (x.1.addr + x.1.width < addr + wide))) fr rfl (by kernel_rfl) rfl rfl (by first | decide | simp) (fun _ _ _ h => h) (fun _ ⟨B4, B26, B6, B7, B38, _⟩ => x_assign rfl (fr.ev rfl)) ⟨B4, B26, B6, B7, B38, trivial⟩ ?_
              clear fr a; intro a fr
              refine fx_hdone (by kernel_rfl) ?_
              refine fx_next ?_
              refine fxr_cond fr rfl (fun hc69 => ?_) (fun hc69 => ?_)
              · skip
                have hc69 := of_decide_eq_true hc69
                refine wpIn_seq ?_
                refine fxr_region (by kernel_rfl) (by rintro ⟨_, _, h⟩; exact h) ?_  -- region 8
                refine fx_store1 sz22 rfl rfl rfl (fr.ev rfl) rfl rfl B6 (show 0 < 1 by decide) (cs' := #[.int .u32 0]) rfl fun w70 hO71 hBq => ?_
                replace B4 := B4.only hO71 (by first | exact ne_b1_b6 | exact ne_b6_b1.symm | (show ¬ b1 = b6; omega))
                replace B26 := B26.only hO71 (by first | exact ne_b23_b6 | exact ne_b6_b23.symm | (show ¬ b23 = b6; omega))
                replace B7 := B7.only hO71 (by first | exact ne_b11_b6 | exact ne_b6_b11.symm | (show ¬ b11 = b6; omega))
                replace B38 := B38.only hO71 (by first | exact ne_b35_b6 | exact ne_b6_b35.symm | (show ¬ b35 = b6; omega))
                replace hF := hF.loc hO71 (.inl (Or.inl rfl))
                replace B6 := hBq
                clear hBq
                refine fx_store1 sz29 rfl rfl rfl (fr.ev rfl) rfl rfl B7 (show 0 < 1 by decide) (cs' := #[.int .i64 2]) rfl fun w72 hO73 hBq => ?_
                replace B4 := B4.only hO73 (by first | exact ne_b1_b11 | exact ne_b11_b1.symm | (show ¬ b1 = b11; omega))
                replace B26 := B26.only hO73 (by first | exact ne_b23_b11 | exact ne_b11_b23.symm | (show ¬ b23 = b11; omega))
                replace B38 := B38.only hO73 (by first | exact ne_b35_b11 | exact ne_b11_b35.symm | (show ¬ b35 = b11; omega))
                replace B6 := B6.only hO73 (by first | exact ne_b6_b11 | exact ne_b11_b6.symm | (show ¬ b6 = b11; omega))
                replace hF := hF.loc hO73 (.inl (Or.inr (rfl)))
                replace B7 := hBq
                clear hBq
                refine wpList_nil ?_
                refine fx_next ?_
                refine wpIn_ret ?_
                refine fx_rb ?_
                refine fx_rt ?_
                refine fx_rb ?_
                exact ⟨⟨_, hF, hcl⟩, ⟨rfl, 0, 2, B4, B26, B6, B7, hC.trans hF hSS, ⟨_, _, rfl, hno, (fwd1_part (by omega) (by omega))⟩⟩⟩
              · skip
                have hc69 := of_decide_eq_false hc69
                refine wpIn_skip ?_
                refine fx_blk ?_
                refine fx_next ?_
                refine wpIn_seq ?_
                refine fxr_heldT (n' := 10) (k := 10) (by kernel_rfl) (by rintro ⟨_, _, h⟩; exact h) (fun w => Blk w b1 3 (#[.int .i64 wide]) ∧ Blk w b23 60 (wE.arr (mkS addr wide 0)) ∧ Blk w b6 22 #[.int .u32 0] ∧ Blk w b11 29 #[.int .i64 0] ∧ Blk w b35 60 (wE.arr x.1) ∧ True) (by kernel_rfl) (by kernel_rfl) rfl ?_  -- region 9
                intro w74 hN75
                replace B4 := B4.new hN75
                replace B26 := B26.new hN75
                replace B6 := B6.new hN75
                replace B7 := B7.new hN75
                replace B38 := B38.new hN75
                replace hF := hF.trNew hN75
                refine fx_take (i := 0) (v := .pointer (some ⟨b35, 0, none⟩)) fr rfl (by kernel_rfl) rfl rfl (by first | decide | simp) (fun _ _ _ h => h) (fun _ ⟨B4, B26, B6, B7, B38, _⟩ => x_fieldAddr fo60_0 rfl (fr.ev rfl) rfl) ⟨B4, B26, B6, B7, B38, trivial⟩ ?_
                clear fr a; intro a fr
                refine fx_take (i := 1) (v := .pointer (some ⟨b35, 2, none⟩)) fr rfl (by kernel_rfl) rfl rfl (by first | decide | simp) (fun _ _ _ h => h) (fun _ ⟨B4, B26, B6, B7, B38, _⟩ => x_fieldAddr fo24_2 rfl (fr.ev rfl) rfl) ⟨B4, B26, B6, B7, B38, trivial⟩ ?_
                clear fr a; intro a fr
                refine fx_take (i := 2) (v := .int .u32 x.1.value) fr rfl (by kernel_rfl) rfl rfl (by first | decide | simp) (fun _ _ _ h => h) (fun _ ⟨B4, B26, B6, B7, B38, _⟩ => x_load1 pl22 rfl (fr.ev rfl) (B38.cell 2 rfl)) ⟨B4, B26, B6, B7, B38, trivial⟩ ?_
                clear fr a; intro a fr
                refine fx_take (i := 3) (v := .agg (wE.arr (mkS addr wide 0))) fr rfl (by kernel_rfl) rfl rfl (by first | decide | simp) (fun _ _ _ h => h) (fun _ ⟨B4, B26, B6, B7, B38, _⟩ => x_loadE (E := wE) ag60 rfl rfl (fr.ev rfl) (B26.rangeE (P := Try.prog) wE)) ⟨B4, B26, B6, B7, B38, trivial⟩ ?_
                clear fr a; intro a fr
                refine fx_take (i := 5) (v := .agg (wE.arr x.1)) fr rfl (by kernel_rfl) rfl rfl (by first | decide | simp) (fun _ _ _ h => h) (fun _ ⟨B4, B26, B6, B7, B38, _⟩ => x_loadE (E := wE) ag60 rfl rfl (fr.ev rfl) (B38.rangeE (P := Try.prog) wE)) ⟨B4, B26, B6, B7, B38, trivial⟩ ?_
                clear fr a; intro a fr
                refine fx_one (i := 4) (by kernel_rfl) (fx_op rfl ?_)
                refine fx_call fr rfl rfl (by first | decide | simp) (x_call (vs := [.agg (wE.arr (mkS addr wide 0))]) rfl rfl ⟨(fr.ev rfl), trivial⟩ Try.func30 nm30 rfl) (from_c (mkS addr wide 0) _) ?_
                clear fr a
                rintro v w76 ⟨rfl, hN77⟩ a fr
                replace B4 := B4.new hN77
                replace B26 := B26.new hN77
                replace B6 := B6.new hN77
                replace B7 := B7.new hN77
                replace B38 := B38.new hN77
                replace hF := hF.trNew hN77
                refine wpList_nil ?_
                refine ⟨⟨B4, B26, B6, B7, B38, trivial⟩, ?_⟩
                refine fx_one (i := 6) (by kernel_rfl) (fx_op rfl ?_)
                refine fx_call fr rfl rfl (by first | decide | simp) (x_call (vs := [.agg (wE.arr x.1)]) rfl rfl ⟨(fr.ev rfl), trivial⟩ Try.func30 nm30 rfl) (from_c x.1 _) ?_
                clear fr a
                rintro v w78 ⟨rfl, hN79⟩ a fr
                replace B4 := B4.new hN79
                replace B26 := B26.new hN79
                replace B6 := B6.new hN79
                replace B7 := B7.new hN79
                replace B38 := B38.new hN79
                replace hF := hF.trNew hN79
                refine wpList_nil ?_
                refine ⟨⟨B4, B26, B6, B7, B38, trivial⟩, ?_⟩
                refine fx_take (i := 7) (v := .int .u64 (addr - x.1.addr)) fr rfl (by kernel_rfl) rfl rfl (by first | decide | simp) (fun _ _ _ h => h) (fun _ ⟨B4, B26, B6, B7, B38, _⟩ => x_sub rfl (fr.ev rfl) (fr.ev rfl) (u64w (r := addr - x.1.addr) rfl (by omega))) ⟨B4, B26, B6, B7, B38, trivial⟩ ?_
                clear fr a; intro a fr
                refine fx_take (i := 8) (v := .int .u64 (8 * (addr - x.1.addr))) fr rfl (by kernel_rfl) rfl rfl (by first | decide | simp) (fun _ _ _ h => h) (fun _ ⟨B4, B26, B6, B7, B38, _⟩ => x_mul rfl rfl (fr.ev rfl) (u64w (r := 8 * (addr - x.1.addr)) rfl (by omega))) ⟨B4, B26, B6, B7, B38, trivial⟩ ?_
                clear fr a; intro a fr
                refine fx_take (i := 9) (v := .int .u32 (x.1.value.fdiv (2 ^ min (8 * (addr - x.1.addr)).toNat 32))) fr rfl (by kernel_rfl) rfl rfl (by first | decide | simp) (fun _ _ _ h => h) (fun _ ⟨B4, B26, B6, B7, B38, _⟩ => x_shr rfl (fr.ev rfl) (fr.ev rfl) (by omega) rfl) ⟨B4, B26, B6, B7, B38, trivial⟩ ?_
                clear fr a; intro a fr
                refine fx_hdone (by kernel_rfl) ?_
                refine fx_tail ?_
                refine fx_val (v := .int .u32 (x.1.value.fdiv (2 ^ min (8 * (addr - x.1.addr)).toNat 32))) fr rfl rfl (by first | decide | simp) (x_assign rfl (fr.ev rfl)) ?_
                clear fr a; intro a fr
                refine wpList_nil ?_
                refine fx_next ?_
                refine wpIn_seq ?_
                refine wpIn_seq ?_
                obtain ⟨nn, hnn⟩ : ∃ nn, x.1.value.fdiv (2 ^ min (8 * (addr - x.1.addr)).toNat 32) = nn := ⟨_, rfl⟩
                rw [hnn] at fr
                have hsh := shr_bd x.1.hv (min (8 * (addr - x.1.addr)).toNat 32)
                rw [hnn] at hsh
                refine fxr_region (by kernel_rfl) (by rintro ⟨_, _, h⟩; exact h) ?_  -- region 10
                refine fx_val (v := .int .i64 wide) fr rfl rfl (by first | decide | simp) (x_load1 pl3 rfl (fr.ev rfl) (B4.cell 0 rfl)) ?_
                clear fr a; intro a fr
                refine fx_val (v := .bool true) fr rfl rfl (by first | decide | simp) (x_lss rfl (fr.ev rfl) rfl (decide_eq_true (by omega))) ?_
                clear fr a; intro a fr
                refine wpList_nil ?_
                refine fx_next ?_
                refine fxr_cond_t fr rfl ?_
                refine fxr_region (by kernel_rfl) (by rintro ⟨_, _, h⟩; exact h) ?_  -- region 11
                refine fx_val (v := .int .u32 nn) fr rfl rfl (by first | decide | simp) (x_move rfl (fr.ev rfl)) ?_
                clear fr a; intro a fr
                refine fx_val (v := .int .i64 wide) fr rfl rfl (by first | decide | simp) (x_load1 pl3 rfl (fr.ev rfl) (B4.cell 0 rfl)) ?_
                clear fr a; intro a fr
                refine fx_val (v := .int .i64 8) fr rfl rfl (by first | decide | simp) (x_mul rfl rfl (fr.ev rfl) (i64w (r := 8) (by omega) (by omega))) ?_
                clear fr a; intro a fr
                refine fx_val (v := .int .u32 256) fr rfl rfl (by first | decide | simp) (x_shl rfl rfl (fr.ev rfl) (by omega) (by decide)) ?_
                clear fr a; intro a fr
                refine fx_val (v := .int .u32 255) fr rfl rfl (by first | decide | simp) (x_sub rfl (fr.ev rfl) rfl (u32w (r := 255) (by omega) (by omega))) ?_
                clear fr a; intro a fr
                refine fx_val (v := .int .u32 (nn % 256)) fr rfl rfl (by first | decide | simp) (x_and rfl (fr.ev rfl) (fr.ev rfl) (by have h9 := and_mask32 (m := nn) (j := 8) (by omega) (by omega) (by decide); simpa using h9)) ?_
                clear fr a; intro a fr
                refine fx_val (v := .int .u32 (nn % 256)) fr rfl rfl (by first | decide | simp) (x_assign rfl (fr.ev rfl)) ?_
                clear fr a; intro a fr
                refine wpList_nil ?_
                refine fx_next ?_
                refine wpIn_seq ?_
                refine fxr_region (by kernel_rfl) (by rintro ⟨_, _, h⟩; exact h) ?_  -- region 12
                refine fx_val (v := .int .u32 (nn % 256)) fr rfl rfl (by first | decide | simp) (x_move rfl (fr.ev rfl)) ?_
                clear fr a; intro a fr
                refine fx_store1 sz22 rfl rfl rfl (fr.ev rfl) (fr.ev rfl) rfl B6 (show 0 < 1 by decide) (cs' := #[.int .u32 (nn % 256)]) rfl fun w80 hO81 hBq => ?_
                replace B4 := B4.only hO81 (by first | exact ne_b1_b6 | exact ne_b6_b1.symm | (show ¬ b1 = b6; omega))
                replace B26 := B26.only hO81 (by first | exact ne_b23_b6 | exact ne_b6_b23.symm | (show ¬ b23 = b6; omega))
                replace B7 := B7.only hO81 (by first | exact ne_b11_b6 | exact ne_b6_b11.symm | (show ¬ b11 = b6; omega))
                replace B38 := B38.only hO81 (by first | exact ne_b35_b6 | exact ne_b6_b35.symm | (show ¬ b35 = b6; omega))
                replace hF := hF.loc hO81 (.inl (Or.inl rfl))
                replace B6 := hBq
                clear hBq
                refine fx_store1 sz29 rfl rfl rfl (fr.ev rfl) rfl rfl B7 (show 0 < 1 by decide) (cs' := #[.int .i64 1]) rfl fun w82 hO83 hBq => ?_
                replace B4 := B4.only hO83 (by first | exact ne_b1_b11 | exact ne_b11_b1.symm | (show ¬ b1 = b11; omega))
                replace B26 := B26.only hO83 (by first | exact ne_b23_b11 | exact ne_b11_b23.symm | (show ¬ b23 = b11; omega))
                replace B38 := B38.only hO83 (by first | exact ne_b35_b11 | exact ne_b11_b35.symm | (show ¬ b35 = b11; omega))
                replace B6 := B6.only hO83 (by first | exact ne_b6_b11 | exact ne_b11_b6.symm | (show ¬ b6 = b11; omega))
                replace hF := hF.loc hO83 (.inl (Or.inr (rfl)))
                replace B7 := hBq
                clear hBq
                refine wpList_nil ?_
                refine fx_next ?_
                refine wpIn_ret ?_
                refine fx_rb ?_
                exact ⟨⟨_, hF, hcl⟩, ⟨rfl, nn % 256, 1, B4, B26, B6, B7, hC.trans hF hSS, ⟨_, _, rfl, hno, (by rw [fwd1_all (by omega) (by omega), ← hnn, hq]; rfl)⟩⟩⟩
      · skip
        rintro D84 W1 hD ⟨B4, B26, B6, B7, hC, hno⟩ hD_D84 a fr
        have g_D84 := Nat.le_trans hF.size hD
        replace H := H.only hC (fun h => h.elim (by first | exact ne_b_b6 | exact ne_b6_b.symm | (show ¬ b = b6; omega)) (by first | exact ne_b_b11 | exact ne_b11_b.symm | (show ¬ b = b11; omega)))
        replace Bn31 := Bn31.only hC (fun h => h.elim (by first | exact ne_bn30_b6 | exact ne_b6_bn30.symm | (show ¬ bn30 = b6; omega)) (by first | exact ne_bn30_b11 | exact ne_b11_bn30.symm | (show ¬ bn30 = b11; omega)))
        replace hF := hF.locS hC (fun i => (fun h => h.elim (fun e => by subst e; exact (.inr g_b6)) (fun e => by subst e; exact (.inr g_b11))))
        have ne_b_D84 := H.mark hD_D84
        have ne_bn30_D84 := Bn31.mark hD_D84
        have ne_b1_D84 := B4.mark hD_D84
        have ne_b23_D84 := B26.mark hD_D84
        have ne_b6_D84 := B6.mark hD_D84
        have ne_b11_D84 := B7.mark hD_D84
        refine fx_blk ?_
        refine fx_next ?_
        refine wp_seq ?_
        refine wp_region_lit ?_  -- region 13
        refine fx_store1 sz22 rfl rfl rfl (fr.ev rfl) rfl rfl B6 (show 0 < 1 by decide) (cs' := #[.int .u32 0]) rfl fun w85 hO86 hBq => ?_
        replace H := H.only hO86 (by first | exact ne_b_b6 | exact ne_b6_b.symm | (show ¬ b = b6; omega))
        replace Bn31 := Bn31.only hO86 (by first | exact ne_bn30_b6 | exact ne_b6_bn30.symm | (show ¬ bn30 = b6; omega))
        replace B4 := B4.only hO86 (by first | exact ne_b1_b6 | exact ne_b6_b1.symm | (show ¬ b1 = b6; omega))
        replace B26 := B26.only hO86 (by first | exact ne_b23_b6 | exact ne_b6_b23.symm | (show ¬ b23 = b6; omega))
        replace B7 := B7.only hO86 (by first | exact ne_b11_b6 | exact ne_b6_b11.symm | (show ¬ b11 = b6; omega))
        replace hD_D84 := hD_D84.only hO86 (by first | exact ne_D84_b6 | exact ne_b6_D84.symm | (show ¬ D84 = b6; omega))
        replace hF := hF.loc hO86 (.inr g_b6)
        replace B6 := hBq
        clear hBq
        refine fx_store1 sz29 rfl rfl rfl (fr.ev rfl) rfl rfl B7 (show 0 < 1 by decide) (cs' := #[.int .i64 0]) rfl fun w87 hO88 hBq => ?_
        replace H := H.only hO88 (by first | exact ne_b_b11 | exact ne_b11_b.symm | (show ¬ b = b11; omega))
        replace Bn31 := Bn31.only hO88 (by first | exact ne_bn30_b11 | exact ne_b11_bn30.symm | (show ¬ bn30 = b11; omega))
        replace B4 := B4.only hO88 (by first | exact ne_b1_b11 | exact ne_b11_b1.symm | (show ¬ b1 = b11; omega))
        replace B26 := B26.only hO88 (by first | exact ne_b23_b11 | exact ne_b11_b23.symm | (show ¬ b23 = b11; omega))
        replace hD_D84 := hD_D84.only hO88 (by first | exact ne_D84_b11 | exact ne_b11_D84.symm | (show ¬ D84 = b11; omega))
        replace B6 := B6.only hO88 (by first | exact ne_b6_b11 | exact ne_b11_b6.symm | (show ¬ b6 = b11; omega))
        replace hF := hF.loc hO88 (.inr g_b11)
        replace B7 := hBq
        clear hBq
        refine wpList_nil ?_
        refine fx_next ?_
        refine wp_ret ?_
        refine fx_retM1 fr g_D84 hD_D84 [.cell 6 22, .cell 7 29] [.int .u32 0, .int .i64 0] rfl rfl ?_
        intro wE hT
        replace H := H.turn hT
        replace Bn31 := Bn31.turn hT
        replace B4 := B4.turn hT
        replace B26 := B26.turn hT
        replace B6 := B6.turn hT
        replace B7 := B7.turn hT
        replace hF := hF.turn hT (Nat.le_refl _)
        refine ⟨⟨⟨_, rfl, x_loadV1 pl22 (B6.cell 0 rfl)⟩, ⟨_, rfl, x_loadV1 pl29 (B7.cell 0 rfl)⟩, trivial⟩, ?_⟩
        have hf : fwd l addr wide = (0, 0) := by unfold fwd; rw [if_pos ⟨by rw [hq]; rfl, by rw [hq]; omega⟩]; exact fdone hno
        rw [hf]
        exact ⟨_, rfl, rfl, hF⟩
      · skip
        rintro D84 c pre W1 hD hpre (⟨rfl, n, k, B4, B26, B6, B7, hC, hst⟩) hD_D84 a fr
        have g_D84 := Nat.le_trans hF.size hD
        replace H := H.only hC (fun h => h.elim (by first | exact ne_b_b6 | exact ne_b6_b.symm | (show ¬ b = b6; omega)) (by first | exact ne_b_b11 | exact ne_b11_b.symm | (show ¬ b = b11; omega)))
        replace Bn31 := Bn31.only hC (fun h => h.elim (by first | exact ne_bn30_b6 | exact ne_b6_bn30.symm | (show ¬ bn30 = b6; omega)) (by first | exact ne_bn30_b11 | exact ne_b11_bn30.symm | (show ¬ bn30 = b11; omega)))
        replace hF := hF.locS hC (fun i => (fun h => h.elim (fun e => by subst e; exact (.inr g_b6)) (fun e => by subst e; exact (.inr g_b11))))
        have ne_b_D84 := H.mark hD_D84
        have ne_bn30_D84 := Bn31.mark hD_D84
        have ne_b1_D84 := B4.mark hD_D84
        have ne_b23_D84 := B26.mark hD_D84
        have ne_b6_D84 := B6.mark hD_D84
        have ne_b11_D84 := B7.mark hD_D84
        refine wp_ret ?_
        refine fx_rb ?_
        refine fx_rt ?_
        refine fx_retM1 fr g_D84 hD_D84 [.cell 6 22, .cell 7 29] [.int .u32 n, .int .i64 k] rfl rfl ?_
        intro wE hT
        replace H := H.turn hT
        replace Bn31 := Bn31.turn hT
        replace B4 := B4.turn hT
        replace B26 := B26.turn hT
        replace B6 := B6.turn hT
        replace B7 := B7.turn hT
        replace hF := hF.turn hT (Nat.le_refl _)
        refine ⟨⟨⟨_, rfl, x_loadV1 pl22 (B6.cell 0 rfl)⟩, ⟨_, rfl, x_loadV1 pl29 (B7.cell 0 rfl)⟩, trivial⟩, ?_⟩
        have hf : fwd l addr wide = (n, k) := by unfold fwd; rw [if_pos ⟨by rw [hq]; rfl, by rw [hq]; omega⟩]; exact hst.eq hpre
        rw [hf]
        exact ⟨_, rfl, rfl, hF⟩
  · skip
    refine wp_region_lit ?_  -- region 1
    refine fx_val (v := .int .i64 wide) fr rfl rfl (by first | decide | simp) (x_load1 pl3 rfl (fr.ev rfl) (B4.cell 0 rfl)) ?_
    clear fr a; intro a fr
    refine fx_call fr rfl rfl (by first | decide | simp) (x_call (vs := [.int .i64 wide]) rfl rfl ⟨(fr.ev rfl), trivial⟩ Try.func27 nm27 rfl) (width_c wide _) ?_
    clear fr a
    rintro v w9 ⟨rfl, hw9⟩ a fr
    obtain rfl := hw9.symm
    rw [show wOk wide = true from (by first | rfl | (rw [show wide = 2 by omega]; rfl))] at fr
    refine fx_val (v := .bool false) fr rfl rfl (by first | decide | simp) (x_not rfl (fr.ev rfl) rfl) ?_
    clear fr a; intro a fr
    refine fx_val (v := .bool false) fr rfl rfl (by first | decide | simp) (x_move rfl (fr.ev rfl)) ?_
    clear fr a; intro a fr
    refine fx_val (v := .int .u32 addr) fr (fr.want rfl rfl rfl) rfl (by first | decide | simp) (x_move rfl (fr.ev rfl)) ?_
    clear fr a; intro a fr
    refine fx_val (v := .int .i64 wide) fr (fr.want rfl rfl rfl) rfl (by first | decide | simp) (x_load1 pl3 rfl (fr.ev rfl) (B4.cell 0 rfl)) ?_
    clear fr a; intro a fr
    refine fx_val (v := .int .u32 2) fr (fr.want rfl rfl rfl) rfl (by first | decide | simp) (x_convert Try.underlying3 Try.underlying22 rfl (fr.ev rfl) (u32w (r := 2) (by omega) (by omega))) ?_
    clear fr a; intro a fr
    refine fx_val (v := .int .u32 (addr % 2)) fr (fr.want rfl rfl rfl) rfl (by first | decide | simp) (x_rem rfl (fr.ev rfl) (fr.ev rfl) (by omega) (r := addr % 2) (by first | exact rem_nn (by omega) | (rw [show 2 = 2 by omega]; exact rem_nn (by omega)))) ?_
    clear fr a; intro a fr
    refine fx_val (v := .bool (decide (addr % 2 ≠ 0))) fr (fr.want rfl rfl rfl) rfl (by first | decide | simp) (x_neq rfl (fr.ev rfl) rfl rfl) ?_
    clear fr a; intro a fr
    refine fx_val (v := .bool (decide (addr % 2 ≠ 0))) fr rfl rfl (by first | decide | simp) (x_pick_f rfl (fr.ev rfl) (fr.ev rfl)) ?_
    clear fr a; intro a fr
    refine wpList_nil ?_
    refine fx_next ?_
    refine fx_cond fr rfl (fun hc91 => ?_) (fun hc91 => ?_)
    · skip
      have hc91 := of_decide_eq_true hc91
      refine wp_seq ?_
      refine wp_region_lit ?_  -- region 2
      refine fx_store1 sz22 rfl rfl rfl (fr.ev rfl) rfl rfl B9 (show 0 < 1 by decide) (cs' := #[.int .u32 0]) rfl fun w92 hO93 hBq => ?_
      replace H := H.only hO93 (by first | exact ne_b_b6 | exact ne_b6_b.symm | (show ¬ b = b6; omega))
      replace B4 := B4.only hO93 (by first | exact ne_b1_b6 | exact ne_b6_b1.symm | (show ¬ b1 = b6; omega))
      replace B14 := B14.only hO93 (by first | exact ne_b11_b6 | exact ne_b6_b11.symm | (show ¬ b11 = b6; omega))
      replace hF := hF.loc hO93 (.inr g_b6)
      replace B9 := hBq
      clear hBq
      refine fx_store1 sz29 rfl rfl rfl (fr.ev rfl) rfl rfl B14 (show 0 < 1 by decide) (cs' := #[.int .i64 0]) rfl fun w94 hO95 hBq => ?_
      replace H := H.only hO95 (by first | exact ne_b_b11 | exact ne_b11_b.symm | (show ¬ b = b11; omega))
      replace B4 := B4.only hO95 (by first | exact ne_b1_b11 | exact ne_b11_b1.symm | (show ¬ b1 = b11; omega))
      replace B9 := B9.only hO95 (by first | exact ne_b6_b11 | exact ne_b11_b6.symm | (show ¬ b6 = b11; omega))
      replace hF := hF.loc hO95 (.inr g_b11)
      replace B14 := hBq
      clear hBq
      refine wpList_nil ?_
      refine fx_next ?_
      refine wp_ret ?_
      refine fx_rt ?_
      refine fx_retM0 fr [.cell 6 22, .cell 7 29] [.int .u32 0, .int .i64 0] rfl ⟨⟨_, rfl, x_loadV1 pl22 (B9.cell 0 rfl)⟩, ⟨_, rfl, x_loadV1 pl29 (B14.cell 0 rfl)⟩, trivial⟩ rfl ?_
      have hf : fwd l addr wide = (0, 0) := by unfold fwd; rw [if_neg (fun h => by have := h.2; rw [hq] at this; omega)]
      rw [hf]
      exact ⟨_, rfl, rfl, hF⟩
    · skip
      have hc91 := of_decide_eq_false hc91
      refine wp_skip ?_
      refine fx_next ?_
      refine wp_seq ?_
      refine wp_region_lit ?_  -- region 3
      refine fx_val (v := .int .u32 addr) fr rfl rfl (by first | decide | simp) (x_move rfl (fr.ev rfl)) ?_
      clear fr a; intro a fr
      refine fx_val (v := .int .i64 wide) fr rfl rfl (by first | decide | simp) (x_load1 pl3 rfl (fr.ev rfl) (B4.cell 0 rfl)) ?_
      clear fr a; intro a fr
      refine fx_val (v := .agg (stE.arr (mkS addr wide 0))) fr rfl rfl (by first | decide | simp) (x_build (cells := stE.arr (mkS addr wide 0)) rfl (by simp only [List.map_toArray, List.map_cons, List.map_nil, show a.eval (.tmp 21) = .int .u32 addr from fr.ev rfl, show a.eval (.tmp 22) = .int .i64 wide from fr.ev rfl]; kernel_rfl)) ?_
      clear fr a; intro a fr
      refine fx_val (v := .agg (wE.arr (mkS addr wide 0))) fr rfl rfl (by first | decide | simp) (x_build (cells := wE.arr (mkS addr wide 0)) rfl (by simp only [List.map_toArray, List.map_cons, List.map_nil, show a.eval (.tmp 23) = .agg (stE.arr (mkS addr wide 0)) from fr.ev rfl]; kernel_rfl)) ?_
      clear fr a; intro a fr
      refine fx_new fr rfl rfl (by first | decide | simp) (x_alloc (z := .agg (#[.int .u32 0, .int .i64 0, .int .u32 0])) (cs := wE.arr st0) rfl (by kernel_rfl) rfl) ?_
      clear fr a
      intro b96 w97 hN98 B99 hb100 a fr
      have ne_b_b96 : NE b b96 := NE.mk (Nat.lt_of_lt_of_le H.lt hb100)
      have ne_b1_b96 : NE b1 b96 := NE.mk (Nat.lt_of_lt_of_le B4.lt hb100)
      have ne_b6_b96 : NE b6 b96 := NE.mk (Nat.lt_of_lt_of_le B9.lt hb100)
      have ne_b11_b96 : NE b11 b96 := NE.mk (Nat.lt_of_lt_of_le B14.lt hb100)
      have g_b96 := Nat.le_trans hF.size hb100
      replace H := H.new hN98
      replace B4 := B4.new hN98
      replace B9 := B9.new hN98
      replace B14 := B14.new hN98
      replace hF := hF.trNew hN98
      refine fx_storeS sz60 rfl rfl rfl (fr.ev rfl) (fr.ev rfl) (wE.all _) B99 (wE.size _) (wE.size _) fun w101 hO102 hBq => ?_
      replace H := H.only hO102 (by first | exact ne_b_b96 | exact ne_b96_b.symm | (show ¬ b = b96; omega))
      replace B4 := B4.only hO102 (by first | exact ne_b1_b96 | exact ne_b96_b1.symm | (show ¬ b1 = b96; omega))
      replace B9 := B9.only hO102 (by first | exact ne_b6_b96 | exact ne_b96_b6.symm | (show ¬ b6 = b96; omega))
      replace B14 := B14.only hO102 (by first | exact ne_b11_b96 | exact ne_b96_b11.symm | (show ¬ b11 = b96; omega))
      replace hF := hF.loc hO102 (.inr g_b96)
      replace B99 := hBq
      clear hBq
      refine wpList_nil ?_
      refine fx_next ?_
      refine wp_seq ?_
      refine wp_seq ?_
      refine wp_region_lit ?_  -- region 4
      refine fx_val (v := .pointer (some ⟨b, 0, none⟩)) fr rfl rfl (by first | decide | simp) (x_move rfl (fr.ev rfl)) ?_
      clear fr a; intro a fr
      refine fx_call fr rfl rfl (by first | decide | simp) (x_call (vs := [.pointer (some ⟨b, 0, none⟩)]) rfl rfl ⟨(fr.ev rfl), trivial⟩ Try.func28 nm28 rfl) (back_c _) ?_
      clear fr a
      rintro v w106 ⟨bn103, rfl, Bn104, hb105, hN107⟩ a fr
      have ne_b_bn103 : NE b bn103 := NE.mk (Nat.lt_of_lt_of_le H.lt hb105)
      have ne_b1_bn103 : NE b1 bn103 := NE.mk (Nat.lt_of_lt_of_le B4.lt hb105)
      have ne_b6_bn103 : NE b6 bn103 := NE.mk (Nat.lt_of_lt_of_le B9.lt hb105)
      have ne_b11_bn103 : NE b11 bn103 := NE.mk (Nat.lt_of_lt_of_le B14.lt hb105)
      have ne_b96_bn103 : NE b96 bn103 := NE.mk (Nat.lt_of_lt_of_le B99.lt hb105)
      have g_bn103 := Nat.le_trans hF.size hb105
      replace H := H.new hN107
      replace B4 := B4.new hN107
      replace B9 := B9.new hN107
      replace B14 := B14.new hN107
      replace B99 := B99.new hN107
      replace hF := hF.trNew hN107
      refine wpList_nil ?_
      refine fx_next ?_
      refine wp_block ?_
      have lt_b1 := B4.lt
      have lt_b96 := B99.lt
      have lt_b6 := B9.lt
      have lt_b11 := B14.lt
      refine fx_range (xs := l.reverse) (e := fun x : VSt => Value.agg (stE.arr x.1)) fr rfl (by decide) (enters_of Try.func37 nm37 rfl) (SI := fun k => k = b6 ∨ k = b11 ∨ w106.heap.size ≤ k) (fun _ h => Or.inr (Or.inr (h))) (all_stops H Bn104 (fun h => h.elim (by first | exact ne_bn103_b6 | exact ne_b6_bn103.symm | (show ¬ bn103 = b6; omega)) (fun h => h.elim (by first | exact ne_bn103_b11 | exact ne_b11_bn103.symm | (show ¬ bn103 = b11; omega)) (fun h => by have := Bn104.lt; omega))) (fun h => h.elim (by first | exact ne_b_b6 | exact ne_b6_b.symm | (show ¬ b = b6; omega)) (fun h => h.elim (by first | exact ne_b_b11 | exact ne_b11_b.symm | (show ¬ b = b11; omega)) (fun h => by have := H.lt; omega)))) (fun pre W => Blk W b1 3 (#[.int .i64 wide]) ∧ Blk W b96 60 (wE.arr (mkS addr wide 0)) ∧ Blk W b6 22 #[.int .u32 0] ∧ Blk W b11 29 #[.int .i64 0] ∧ Only (fun k => k = b6 ∨ k = b11) w106 W ∧ ∀ y ∈ pre, fwd1 addr wide y.1 = none) (fun c pre W => (c = .ret ∧ ∃ n : Int, ∃ k : Int, Blk W b1 3 (#[.int .i64 wide]) ∧ Blk W b96 60 (wE.arr (mkS addr wide 0)) ∧ Blk W b6 22 #[.int .u32 n] ∧ Blk W b11 29 #[.int .i64 k] ∧ Only (fun k => k = b6 ∨ k = b11) w106 W ∧ FStop addr wide pre (n, k))) (fun x a' W => ∃ b108 : Nat, Blk W b108 60 (wE.arr x.1) ∧ w106.heap.size ≤ b108 ∧ Fr (73, []) [(0, .pointer (some ⟨b, 0, none⟩)), (1, .int .u32 addr), (2, .int .i64 wide), (5, .pointer (some ⟨b1, 0, none⟩)), (6, .pointer (some ⟨b6, 0, none⟩)), (7, .pointer (some ⟨b11, 0, none⟩)), (11, .int .i64 wide), (12, .bool true), (13, .bool false), (14, .bool false), (15, .int .u32 addr), (16, .int .i64 wide), (17, .int .u32 2), (18, .int .u32 (addr % 2)), (19, .bool (decide (addr % 2 ≠ 0))), (20, .bool (decide (addr % 2 ≠ 0))), (21, .int .u32 addr), (22, .int .i64 wide), (23, .agg (stE.arr (mkS addr wide 0))), (24, .agg (wE.arr (mkS addr wide 0))), (8, .pointer (some ⟨b96, 0, none⟩)), (25, .pointer (some ⟨b, 0, none⟩)), (26, .func (.func 37) #[] #[.pointer (some ⟨bn103, 0, none⟩)]), (27, .agg (wE.arr x.1)), (9, .pointer (some ⟨b108, 0, none⟩))] a') ?_ ?_ ?_ ?_ ⟨B4, B99, B9, B14, Only.refl _ _, (fun y hy => by simp at hy)⟩ ?_ ?_ ?_ ?_
      · rintro pre W W' ⟨B4, B99, B6, B7, hC, hno⟩ hT; exact ⟨B4.turn hT, B99.turn hT, B6.turn hT, B7.turn hT, hC.turn hT (Nat.le_refl _), hno⟩
      · rintro c pre W W' (⟨rfl, n, k, B4, B99, B6, B7, hC, hst⟩) hT
        exact ⟨rfl, n, k, B4.turn hT, B99.turn hT, B6.turn hT, B7.turn hT, hC.turn hT (Nat.le_refl _), hst⟩
      · rintro x a' _ W W' ⟨b108, B111, h_b108, hf⟩ hT; exact ⟨b108, B111.turn hT, h_b108, hf⟩
      · rintro pre W W' ⟨B4, B99, B6, B7, hC, hno⟩ hN; exact ⟨B4.new hN, B99.new hN, B6.new hN, B7.new hN, hC.trNew hN, hno⟩
      · skip
        rintro l pre x W K ⟨B4, B99, B6, B7, hC, hno⟩ hK a fr
        have hF := Only.refl (fun _ => False) W
        refine fxr_region (by kernel_rfl) (by rintro ⟨_, _, h⟩; exact h) ?_  -- region 5
        refine fx_new fr rfl rfl (by first | decide | simp) (x_alloc (z := .agg (#[.int .u32 0, .int .i64 0, .int .u32 0])) (cs := wE.arr st0) rfl (by kernel_rfl) rfl) ?_
        clear fr a
        intro b108 w109 hN110 B111 hb112 a fr
        have g_b108 := Nat.le_trans hF.size hb112
        replace hF := hF.trNew hN110
        refine fx_storeS sz60 rfl rfl rfl (fr.ev rfl) (fr.ev rfl) (wE.all _) B111 (wE.size _) (wE.size _) fun w113 hO114 hBq => ?_
        replace hF := hF.loc hO114 (.inr g_b108)
        replace B111 := hBq
        clear hBq
        refine wpList_nil ?_
        refine hK _ _ hF ⟨b108, B111, Nat.le_trans hC.size g_b108, fr.sub ⟨rfl, rfl, rfl, rfl, rfl, rfl, rfl, rfl, rfl, rfl, rfl, rfl, rfl, rfl, rfl, rfl, rfl, rfl, rfl, rfl, rfl, rfl, rfl, rfl, rfl, trivial⟩⟩
      · skip
        rintro lq pre x a W ⟨B4, B99, B6, B7, hC, hno⟩ ⟨b108, B111, h_b108, fr⟩ hlen
        have ne_b1_b108 : NE b1 b108 := NE.mk (Nat.lt_of_lt_of_le lt_b1 h_b108)
        have ne_b96_b108 : NE b96 b108 := NE.mk (Nat.lt_of_lt_of_le lt_b96 h_b108)
        have ne_b6_b108 : NE b6 b108 := NE.mk (Nat.lt_of_lt_of_le lt_b6 h_b108)
        have ne_b11_b108 : NE b11 b108 := NE.mk (Nat.lt_of_lt_of_le lt_b11 h_b108)
        have cl_b6 := B6.cells
        have cl_b11 := B7.cells
        have hF := Only.refl (fun k => k = b6 ∨ k = b11) W
        have hcl : ∀ k, k < W.heap.size → (fun k => k = b6 ∨ k = b11) k → (fun k => k = b6 ∨ k = b11 ∨ w106.heap.size ≤ k) k ∧ ∃ o : Obj, W.heap[k]? = some o ∧ o.isCells = true := by
          rintro k _ (rfl | rfl)
          · exact ⟨Or.inl rfl, cl_b6⟩
          · exact ⟨Or.inr (Or.inl rfl), cl_b11⟩
        have hSS : ∀ k, k < w106.heap.size → (fun k => k = b6 ∨ k = b11) k → (fun k => k = b6 ∨ k = b11) k := by
          rintro k hk (rfl | rfl)
          · exact Or.inl rfl
          · exact Or.inr (rfl)
        obtain ⟨hxs, hxm⟩ := x.spec
        have hxa := x.1.ha
        have hxv := x.1.hv
        refine wpIn_block ?_
        refine wpIn_seq ?_
        refine wpIn_block ?_
        refine wpIn_seq ?_
        refine fxr_held (k := 13) (by kernel_rfl) (by rintro ⟨_, _, h⟩; exact h) (fun w => Blk w b1 3 (#[.int .i64 wide]) ∧ Blk w b96 60 (wE.arr (mkS addr wide 0)) ∧ Blk w b6 22 #[.int .u32 0] ∧ Blk w b11 29 #[.int .i64 0] ∧ Blk w b108 60 (wE.arr x.1) ∧ True) (by kernel_rfl) rfl ?_  -- region 6
        intro w115 hN116
        replace B4 := B4.new hN116
        replace B99 := B99.new hN116
        replace B6 := B6.new hN116
        replace B7 := B7.new hN116
        replace B111 := B111.new hN116
        replace hF := hF.trNew hN116
        refine fx_take (i := 0) (v := .agg (wE.arr (mkS addr wide 0))) fr rfl (by kernel_rfl) rfl rfl (by first | decide | simp) (fun _ _ _ h => h) (fun _ ⟨B4, B99, B6, B7, B111, _⟩ => x_loadE (E := wE) ag60 rfl rfl (fr.ev rfl) (B99.rangeE (P := Try.prog) wE)) ⟨B4, B99, B6, B7, B111, trivial⟩ ?_
        clear fr a; intro a fr
        refine fx_take (i := 2) (v := .agg (wE.arr x.1)) fr rfl (by kernel_rfl) rfl rfl (by first | decide | simp) (fun _ _ _ h => h) (fun _ ⟨B4, B99, B6, B7, B111, _⟩ => x_loadE (E := wE) ag60 rfl rfl (fr.ev rfl) (B111.rangeE (P := Try.prog) wE)) ⟨B4, B99, B6, B7, B111, trivial⟩ ?_
        clear fr a; intro a fr
        refine fx_one (i := 1) (by kernel_rfl) (fx_op rfl ?_)
        refine fx_call fr rfl rfl (by first | decide | simp) (x_call (vs := [.agg (wE.arr (mkS addr wide 0))]) rfl rfl ⟨(fr.ev rfl), trivial⟩ Try.func29 nm29 rfl) (until_c (mkS addr wide 0) _ (by show 1 ≤ wide ∧ wide ≤ 4; omega)) ?_
        clear fr a
        rintro v w117 ⟨rfl, hN118⟩ a fr
        replace B4 := B4.new hN118
        replace B99 := B99.new hN118
        replace B6 := B6.new hN118
        replace B7 := B7.new hN118
        replace B111 := B111.new hN118
        replace hF := hF.trNew hN118
        refine wpList_nil ?_
        refine ⟨⟨B4, B99, B6, B7, B111, trivial⟩, ?_⟩
        refine fx_one (i := 3) (by kernel_rfl) (fx_op rfl ?_)
        refine fx_call fr rfl rfl (by first | decide | simp) (x_call (vs := [.agg (wE.arr x.1)]) rfl rfl ⟨(fr.ev rfl), trivial⟩ Try.func30 nm30 rfl) (from_c x.1 _) ?_
        clear fr a
        rintro v w119 ⟨rfl, hN120⟩ a fr
        replace B4 := B4.new hN120
        replace B99 := B99.new hN120
        replace B6 := B6.new hN120
        replace B7 := B7.new hN120
        replace B111 := B111.new hN120
        replace hF := hF.trNew hN120
        refine wpList_nil ?_
        refine ⟨⟨B4, B99, B6, B7, B111, trivial⟩, ?_⟩
        refine fx_take (i := 4) (v := .bool (decide (addr + wide ≤ x.1.addr))) fr rfl (by kernel_rfl) rfl rfl (by first | decide | simp) (fun _ _ _ h => h) (fun _ ⟨B4, B99, B6, B7, B111, _⟩ => x_leq rfl (fr.ev rfl) (fr.ev rfl) rfl) ⟨B4, B99, B6, B7, B111, trivial⟩ ?_
        clear fr a; intro a fr
        refine fx_take (i := 5) (v := .bool (decide (addr + wide ≤ x.1.addr))) fr rfl (by kernel_rfl) rfl rfl (by first | decide | simp) (fun _ _ _ h => h) (fun _ ⟨B4, B99, B6, B7, B111, _⟩ => x_move rfl (fr.ev rfl)) ⟨B4, B99, B6, B7, B111, trivial⟩ ?_
        clear fr a; intro a fr
        refine fx_takemay (i := 6) (g := !(decide (addr + wide ≤ x.1.addr))) (v := .agg (wE.arr x.1)) fr rfl (by kernel_rfl) rfl rfl rfl (by simp) rfl (by first | decide | simp) (fun _ _ _ _ h => h) (fun hg _ ⟨B4, B99, B6, B7, B111, _⟩ => x_loadE (E := wE) ag60 rfl rfl (fr.ev rfl) (B111.rangeE (P := Try.prog) wE)) ⟨B4, B99, B6, B7, B111, trivial⟩ ?_
        clear fr a; intro a fr
        refine fx_takemay (i := 8) (g := !(decide (addr + wide ≤ x.1.addr))) (v := .agg (wE.arr (mkS addr wide 0))) fr rfl (by kernel_rfl) rfl rfl rfl (by simp) rfl (by first | decide | simp) (fun _ _ _ _ h => h) (fun hg _ ⟨B4, B99, B6, B7, B111, _⟩ => x_loadE (E := wE) ag60 rfl rfl (fr.ev rfl) (B99.rangeE (P := Try.prog) wE)) ⟨B4, B99, B6, B7, B111, trivial⟩ ?_
        clear fr a; intro a fr
        refine fx_one (i := 7) (by kernel_rfl) (fx_op rfl ?_)
        rcases Bool.eq_false_or_eq_true (decide (addr + wide ≤ x.1.addr)) with hc121 | hc121
        · skip
          rw [hc121] at fr
          have hc121 := of_decide_eq_true hc121
          refine fx_skip fr (fr.unwant rfl rfl rfl (by decide)) rfl (by first | decide | simp) ?_
          clear fr a; intro a fr
          refine wpList_nil ?_
          refine ⟨⟨B4, B99, B6, B7, B111, trivial⟩, ?_⟩
          refine fx_takeskip (i := 9) fr rfl (by kernel_rfl) (fr.unwant rfl rfl rfl (by decide)) rfl (by first | decide | simp) (fun _ _ _ h => h) ⟨B4, B99, B6, B7, B111, trivial⟩ ?_
          clear fr a; intro a fr
          refine fx_takeskip (i := 10) fr rfl (by kernel_rfl) (fr.unwant rfl rfl rfl (by decide)) rfl (by first | decide | simp) (fun _ _ _ h => h) ⟨B4, B99, B6, B7, B111, trivial⟩ ?_
          clear fr a; intro a fr
          refine fx_take (i := 11) (v := .bool true) fr rfl (by kernel_rfl) rfl rfl (by first | decide | simp) (fun _ _ _ h => h) (fun _ ⟨B4, B99, B6, B7, B111, _⟩ => x_pick_t rfl (fr.ev rfl) rfl) ⟨B4, B99, B6, B7, B111, trivial⟩ ?_
          clear fr a; intro a fr
          refine fx_take (i := 12) (v := .bool true) fr rfl (by kernel_rfl) rfl rfl (by first | decide | simp) (fun _ _ _ h => h) (fun _ ⟨B4, B99, B6, B7, B111, _⟩ => x_assign rfl (fr.ev rfl)) ⟨B4, B99, B6, B7, B111, trivial⟩ ?_
          clear fr a; intro a fr
          refine fx_hdone (by kernel_rfl) ?_
          refine fx_next ?_
          refine fxr_cond_t fr rfl ?_
          refine wpIn_exit ?_
          refine fx_xb (by decide) ?_
          refine fx_xt ?_
          refine fx_xx ?_
          exact ⟨⟨_, hF, hcl⟩, B4, B99, B6, B7, hC.trans hF hSS, (fno_step hno (fwd1_none (by omega)))⟩
        · skip
          rw [hc121] at fr
          have hc121 := of_decide_eq_false hc121
          refine fx_call fr (fr.want rfl rfl rfl) rfl (by first | decide | simp) (x_call (vs := [.agg (wE.arr x.1)]) rfl rfl ⟨((fr.ev rfl).trans (onlyIf_t rfl)), trivial⟩ Try.func29 nm29 rfl) (until_c x.1 _ (by omega)) ?_
          clear fr a
          rintro v w122 ⟨rfl, hN123⟩ a fr
          replace B4 := B4.new hN123
          replace B99 := B99.new hN123
          replace B6 := B6.new hN123
          replace B7 := B7.new hN123
          replace B111 := B111.new hN123
          replace hF := hF.trNew hN123
          refine wpList_nil ?_
          refine ⟨⟨B4, B99, B6, B7, B111, trivial⟩, ?_⟩
          refine fx_one (i := 9) (by kernel_rfl) (fx_op rfl ?_)
          refine fx_call fr (fr.want rfl rfl rfl) rfl (by first | decide | simp) (x_call (vs := [.agg (wE.arr (mkS addr wide 0))]) rfl rfl ⟨((fr.ev rfl).trans (onlyIf_t rfl)), trivial⟩ Try.func30 nm30 rfl) (from_c (mkS addr wide 0) _) ?_
          clear fr a
          rintro v w124 ⟨rfl, hN125⟩ a fr
          replace B4 := B4.new hN125
          replace B99 := B99.new hN125
          replace B6 := B6.new hN125
          replace B7 := B7.new hN125
          replace B111 := B111.new hN125
          replace hF := hF.trNew hN125
          refine wpList_nil ?_
          refine ⟨⟨B4, B99, B6, B7, B111, trivial⟩, ?_⟩
          refine fx_take (i := 10) (v := .bool (decide (x.1.addr + x.1.width ≤ addr))) fr rfl (by kernel_rfl) (fr.want rfl rfl rfl) rfl (by first | decide | simp) (fun _ _ _ h => h) (fun _ ⟨B4, B99, B6, B7, B111, _⟩ => x_leq rfl (fr.ev rfl) (fr.ev rfl) rfl) ⟨B4, B99, B6, B7, B111, trivial⟩ ?_
          clear fr a; intro a fr
          refine fx_take (i := 11) (v := .bool (decide (x.1.addr + x.1.width ≤ addr))) fr rfl (by kernel_rfl) rfl rfl (by first | decide | simp) (fun _ _ _ h => h) (fun _ ⟨B4, B99, B6, B7, B111, _⟩ => x_pick_f rfl (fr.ev rfl) (fr.ev rfl)) ⟨B4, B99, B6, B7, B111, trivial⟩ ?_
          clear fr a; intro a fr
          refine fx_take (i := 12) (v := .bool (decide (x.1.addr + x.1.width ≤ addr))) fr rfl (by kernel_rfl) rfl rfl (by first | decide | simp) (fun _ _ _ h => h) (fun _ ⟨B4, B99, B6, B7, B111, _⟩ => x_assign rfl (fr.ev rfl)) ⟨B4, B99, B6, B7, B111, trivial⟩ ?_
          clear fr a; intro a fr
          refine fx_hdone (by kernel_rfl) ?_
          refine fx_next ?_
          refine fxr_cond fr rfl (fun hc126 => ?_) (fun hc126 => ?_)
          · skip
            have hc126 := of_decide_eq_true hc126
            refine wpIn_exit ?_
            refine fx_xb (by decide) ?_
            refine fx_xt ?_
            refine fx_xx ?_
            exact ⟨⟨_, hF, hcl⟩, B4, B99, B6, B7, hC.trans hF hSS, (fno_step hno (fwd1_none (by omega)))⟩
          · skip
            have hc126 := of_decide_eq_false hc126
            refine wpIn_seq ?_
            refine fxr_held (k := 13) (by kernel_rfl) (by rintro ⟨_, _, h⟩; exact h) (fun w => Blk w b1 3 (#[.int .i64 wide]) ∧ Blk w b96 60 (wE.arr (mkS addr wide 0)) ∧ Blk w b6 22 #[.int .u32 0] ∧ Blk w b11 29 #[.int .i64 0] ∧ Blk w b108 60 (wE.arr x.1) ∧ True) (by kernel_rfl) rfl ?_  -- region 7
            intro w127 hN128
            replace B4 := B4.new hN128
            replace B99 := B99.new hN128
            replace B6 := B6.new hN128
            replace B7 := B7.new hN128
            replace B111 := B111.new hN128
            replace hF := hF.trNew hN128
            refine fx_take (i := 0) (v := .agg (wE.arr (mkS addr wide 0))) fr rfl (by kernel_rfl) rfl rfl (by first | decide | simp) (fun _ _ _ h => h) (fun _ ⟨B4, B99, B6, B7, B111, _⟩ => x_loadE (E := wE) ag60 rfl rfl (fr.ev rfl) (B99.rangeE (P := Try.prog) wE)) ⟨B4, B99, B6, B7, B111, trivial⟩ ?_
            clear fr a; intro a fr
            refine fx_take (i := 2) (v := .agg (wE.arr x.1)) fr rfl (by kernel_rfl) rfl rfl (by first | decide | simp) (fun _ _ _ h => h) (fun _ ⟨B4, B99, B6, B7, B111, _⟩ => x_loadE (E := wE) ag60 rfl rfl (fr.ev rfl) (B111.rangeE (P := Try.prog) wE)) ⟨B4, B99, B6, B7, B111, trivial⟩ ?_
            clear fr a; intro a fr
            refine fx_one (i := 1) (by kernel_rfl) (fx_op rfl ?_)
            refine fx_call fr rfl rfl (by first | decide | simp) (x_call (vs := [.agg (wE.arr (mkS addr wide 0))]) rfl rfl ⟨(fr.ev rfl), trivial⟩ Try.func30 nm30 rfl) (from_c (mkS addr wide 0) _) ?_
            clear fr a
            rintro v w129 ⟨rfl, hN130⟩ a fr
            replace B4 := B4.new hN130
            replace B99 := B99.new hN130
            replace B6 := B6.new hN130
            replace B7 := B7.new hN130
            replace B111 := B111.new hN130
            replace hF := hF.trNew hN130
            refine wpList_nil ?_
            refine ⟨⟨B4, B99, B6, B7, B111, trivial⟩, ?_⟩
            refine fx_one (i := 3) (by kernel_rfl) (fx_op rfl ?_)
            refine fx_call fr rfl rfl (by first | decide | simp) (x_call (vs := [.agg (wE.arr x.1)]) rfl rfl ⟨(fr.ev rfl), trivial⟩ Try.func30 nm30 rfl) (from_c x.1 _) ?_
            clear fr a
            rintro v w131 ⟨rfl, hN132⟩ a fr
            replace B4 := B4.new hN132
            replace B99 := B99.new hN132
            replace B6 := B6.new hN132
            replace B7 := B7.new hN132
            replace B111 := B111.new hN132
            replace hF := hF.trNew hN132
            refine wpList_nil ?_
            refine ⟨⟨B4, B99, B6, B7, B111, trivial⟩, ?_⟩
            refine fx_take (i := 4) (v := .bool (decide (addr < x.1.addr))) fr rfl (by kernel_rfl) rfl rfl (by first | decide | simp) (fun _ _ _ h => h) (fun _ ⟨B4, B99, B6, B7, B111, _⟩ => x_lss rfl (fr.ev rfl) (fr.ev rfl) rfl) ⟨B4, B99, B6, B7, B111, trivial⟩ ?_
            clear fr a; intro a fr
            refine fx_take (i := 5) (v := .bool (decide (addr < x.1.addr))) fr rfl (by kernel_rfl) rfl rfl (by first | decide | simp) (fun _ _ _ h => h) (fun _ ⟨B4, B99, B6, B7, B111, _⟩ => x_move rfl (fr.ev rfl)) ⟨B4, B99, B6, B7, B111, trivial⟩ ?_
            clear fr a; intro a fr
            refine fx_takemay (i := 6) (g := !(decide (addr < x.1.addr))) (v := .agg (wE.arr x.1)) fr rfl (by kernel_rfl) rfl rfl rfl (by simp) rfl (by first | decide | simp) (fun _ _ _ _ h => h) (fun hg _ ⟨B4, B99, B6, B7, B111, _⟩ => x_loadE (E := wE) ag60 rfl rfl (fr.ev rfl) (B111.rangeE (P := Try.prog) wE)) ⟨B4, B99, B6, B7, B111, trivial⟩ ?_
            clear fr a; intro a fr
            refine fx_takemay (i := 8) (g := !(decide (addr < x.1.addr))) (v := .agg (wE.arr (mkS addr wide 0))) fr rfl (by kernel_rfl) rfl rfl rfl (by simp) rfl (by first | decide | simp) (fun _ _ _ _ h => h) (fun hg _ ⟨B4, B99, B6, B7, B111, _⟩ => x_loadE (E := wE) ag60 rfl rfl (fr.ev rfl) (B99.rangeE (P := Try.prog) wE)) ⟨B4, B99, B6, B7, B111, trivial⟩ ?_
            clear fr a; intro a fr
            refine fx_one (i := 7) (by kernel_rfl) (fx_op rfl ?_)
            rcases Bool.eq_false_or_eq_true (decide (addr < x.1.addr)) with hc133 | hc133
            · skip
              rw [hc133] at fr
              have hc133 := of_decide_eq_true hc133
              refine fx_skip fr (fr.unwant rfl rfl rfl (by decide)) rfl (by first | decide | simp) ?_
              clear fr a; intro a fr
              refine wpList_nil ?_
              refine ⟨⟨B4, B99, B6, B7, B111, trivial⟩, ?_⟩
              refine fx_takeskip (i := 9) fr rfl (by kernel_rfl) (fr.unwant rfl rfl rfl (by decide)) rfl (by first | decide | simp) (fun _ _ _ h => h) ⟨B4, B99, B6, B7, B111, trivial⟩ ?_
              clear fr a; intro a fr
              refine fx_takeskip (i := 10) fr rfl (by kernel_rfl) (fr.unwant rfl rfl rfl (by decide)) rfl (by first | decide | simp) (fun _ _ _ h => h) ⟨B4, B99, B6, B7, B111, trivial⟩ ?_
              clear fr a; intro a fr
              refine fx_take (i := 11) (v := .bool true) fr rfl (by kernel_rfl) rfl rfl (by first | decide | simp) (fun _ _ _ h => h) (fun _ ⟨B4, B99, B6, B7, B111, _⟩ => x_pick_t rfl (fr.ev rfl) rfl) ⟨B4, B99, B6, B7, B111, trivial⟩ ?_
              clear fr a; intro a fr
              refine fx_take (i := 12) (v := .bool true) fr rfl (by kernel_rfl) rfl rfl (by first | decide | simp) (fun _ _ _ h => h) (fun _ ⟨B4, B99, B6, B7, B111, _⟩ => x_assign rfl (fr.ev rfl)) ⟨B4, B99, B6, B7, B111, trivial⟩ ?_
              clear fr a; intro a fr
              refine fx_hdone (by kernel_rfl) ?_
              refine fx_next ?_
              refine fxr_cond_t fr rfl ?_
              refine wpIn_seq ?_
              refine fxr_region (by kernel_rfl) (by rintro ⟨_, _, h⟩; exact h) ?_  -- region 8
              refine fx_store1 sz22 rfl rfl rfl (fr.ev rfl) rfl rfl B6 (show 0 < 1 by decide) (cs' := #[.int .u32 0]) rfl fun w134 hO135 hBq => ?_
              replace B4 := B4.only hO135 (by first | exact ne_b1_b6 | exact ne_b6_b1.symm | (show ¬ b1 = b6; omega))
              replace B99 := B99.only hO135 (by first | exact ne_b96_b6 | exact ne_b6_b96.symm | (show ¬ b96 = b6; omega))
              replace B7 := B7.only hO135 (by first | exact ne_b11_b6 | exact ne_b6_b11.symm | (show ¬ b11 = b6; omega))
              replace B111 := B111.only hO135 (by first | exact ne_b108_b6 | exact ne_b6_b108.symm | (show ¬ b108 = b6; omega))
              replace hF := hF.loc hO135 (.inl (Or.inl rfl))
              replace B6 := hBq
              clear hBq
              refine fx_store1 sz29 rfl rfl rfl (fr.ev rfl) rfl rfl B7 (show 0 < 1 by decide) (cs' := #[.int .i64 2]) rfl fun w136 hO137 hBq => ?_
              replace B4 := B4.only hO137 (by first | exact ne_b1_b11 | exact ne_b11_b1.symm | (show ¬ b1 = b11; omega))
              replace B99 := B99.only hO137 (by first | exact ne_b96_b11 | exact ne_b11_b96.symm | (show ¬ b96 = b11; omega))
              replace B111 := B111.only hO137 (by first | exact ne_b108_b11 | exact ne_b11_b108.symm | (show ¬ b108 = b11; omega))
              replace B6 := B6.only hO137 (by first | exact ne_b6_b11 | exact ne_b11_b6.symm | (show ¬ b6 = b11; omega))
              replace hF := hF.loc hO137 (.inl (Or.inr (rfl)))
              replace B7 := hBq
              clear hBq
              refine wpList_nil ?_
              refine fx_next ?_
              refine wpIn_ret ?_
              refine fx_rb ?_
              refine fx_rt ?_
              refine fx_rb ?_
              exact ⟨⟨_, hF, hcl⟩, ⟨rfl, 0, 2, B4, B99, B6, B7, hC.trans hF hSS, ⟨_, _, rfl, hno, (fwd1_part (by omega) (by omega))⟩⟩⟩
            · skip
              rw [hc133] at fr
              have hc133 := of_decide_eq_false hc133
              refine fx_call fr (fr.want rfl rfl rfl) rfl (by first | decide | simp) (x_call (vs := [.agg (wE.arr x.1)]) rfl rfl ⟨((fr.ev rfl).trans (onlyIf_t rfl)), trivial⟩ Try.func29 nm29 rfl) (until_c x.1 _ (by omega)) ?_
              clear fr a
              rintro v w138 ⟨rfl, hN139⟩ a fr
              replace B4 := B4.new hN139
              replace B99 := B99.new hN139
              replace B6 := B6.new hN139
              replace B7 := B7.new hN139
              replace B111 := B111.new hN139
              replace hF := hF.trNew hN139
              refine wpList_nil ?_
              refine ⟨⟨B4, B99, B6, B7, B111, trivial⟩, ?_⟩
              refine fx_one (i := 9) (by kernel_rfl) (fx_op rfl ?_)
              refine fx_call fr (fr.want rfl rfl rfl) rfl (by first | decide | simp) (x_call (vs := [.agg (wE.arr (mkS addr wide 0))]) rfl rfl ⟨((fr.ev rfl).trans (onlyIf_t rfl)), trivial⟩ Try.func29 nm29 rfl) (until_c (mkS addr wide 0) _ (by show 1 ≤ wide ∧ wide ≤ 4; omega)) ?_
              clear fr a
              rintro v w140 ⟨rfl, hN141⟩ a fr
              replace B4 := B4.new hN141
              replace B99 := B99.new hN141
              replace B6 := B6.new hN141
              replace B7 := B7.new hN141
              replace B111 := B111.new hN141
              replace hF := hF.trNew hN141
              refine wpList_nil ?_
              refine ⟨⟨B4, B99, B6, B7, B111, trivial⟩, ?_⟩
              refine fx_take (i := 10) (v := .bool (decide (x.1.addr + x.1.width < addr + wide))) fr rfl (by kernel_rfl) (fr.want rfl rfl rfl) rfl (by first | decide | simp) (fun _ _ _ h => h) (fun _ ⟨B4, B99, B6, B7, B111, _⟩ => x_lss rfl (fr.ev rfl) (fr.ev rfl) rfl) ⟨B4, B99, B6, B7, B111, trivial⟩ ?_
              clear fr a; intro a fr
              refine fx_take (i := 11) (v := .bool (decide (x.1.addr + x.1.width < addr + wide))) fr rfl (by kernel_rfl) rfl rfl (by first | decide | simp) (fun _ _ _ h => h) (fun _ ⟨B4, B99, B6, B7, B111, _⟩ => x_pick_f rfl (fr.ev rfl) (fr.ev rfl)) ⟨B4, B99, B6, B7, B111, trivial⟩ ?_
              clear fr a; intro a fr
              refine fx_take (i := 12) (v := .bool (decide (x.1.addr + x.1.width < addr + wide))) fr rfl (by kernel_rfl) rfl rfl (by first | decide | simp) (fun _ _ _ h => h) (fun _ ⟨B4, B99, B6, B7, B111, _⟩ => x_assign rfl (fr.ev rfl)) ⟨B4, B99, B6, B7, B111, trivial⟩ ?_
              clear fr a; intro a fr
              refine fx_hdone (by kernel_rfl) ?_
              refine fx_next ?_
              refine fxr_cond fr rfl (fun hc142 => ?_) (fun hc142 => ?_)
              · skip
                have hc142 := of_decide_eq_true hc142
                refine wpIn_seq ?_
                refine fxr_region (by kernel_rfl) (by rintro ⟨_, _, h⟩; exact h) ?_  -- region 8
                refine fx_store1 sz22 rfl rfl rfl (fr.ev rfl) rfl rfl B6 (show 0 < 1 by decide) (cs' := #[.int .u32 0]) rfl fun w143 hO144 hBq => ?_
                replace B4 := B4.only hO144 (by first | exact ne_b1_b6 | exact ne_b6_b1.symm | (show ¬ b1 = b6; omega))
                replace B99 := B99.only hO144 (by first | exact ne_b96_b6 | exact ne_b6_b96.symm | (show ¬ b96 = b6; omega))
                replace B7 := B7.only hO144 (by first | exact ne_b11_b6 | exact ne_b6_b11.symm | (show ¬ b11 = b6; omega))
                replace B111 := B111.only hO144 (by first | exact ne_b108_b6 | exact ne_b6_b108.symm | (show ¬ b108 = b6; omega))
                replace hF := hF.loc hO144 (.inl (Or.inl rfl))
                replace B6 := hBq
                clear hBq
                refine fx_store1 sz29 rfl rfl rfl (fr.ev rfl) rfl rfl B7 (show 0 < 1 by decide) (cs' := #[.int .i64 2]) rfl fun w145 hO146 hBq => ?_
                replace B4 := B4.only hO146 (by first | exact ne_b1_b11 | exact ne_b11_b1.symm | (show ¬ b1 = b11; omega))
                replace B99 := B99.only hO146 (by first | exact ne_b96_b11 | exact ne_b11_b96.symm | (show ¬ b96 = b11; omega))
                replace B111 := B111.only hO146 (by first | exact ne_b108_b11 | exact ne_b11_b108.symm | (show ¬ b108 = b11; omega))
                replace B6 := B6.only hO146 (by first | exact ne_b6_b11 | exact ne_b11_b6.symm | (show ¬ b6 = b11; omega))
                replace hF := hF.loc hO146 (.inl (Or.inr (rfl)))
                replace B7 := hBq
                clear hBq
                refine wpList_nil ?_
                refine fx_next ?_
                refine wpIn_ret ?_
                refine fx_rb ?_
                refine fx_rt ?_
                refine fx_rb ?_
                exact ⟨⟨_, hF, hcl⟩, ⟨rfl, 0, 2, B4, B99, B6, B7, hC.trans hF hSS, ⟨_, _, rfl, hno, (fwd1_part (by omega) (by omega))⟩⟩⟩
              · skip
                have hc142 := of_decide_eq_false hc142
                refine wpIn_skip ?_
                refine fx_blk ?_
                refine fx_next ?_
                refine wpIn_seq ?_
                refine fxr_heldT (n' := 10) (k := 10) (by kernel_rfl) (by rintro ⟨_, _, h⟩; exact h) (fun w => Blk w b1 3 (#[.int .i64 wide]) ∧ Blk w b96 60 (wE.arr (mkS addr wide 0)) ∧ Blk w b6 22 #[.int .u32 0] ∧ Blk w b11 29 #[.int .i64 0] ∧ Blk w b108 60 (wE.arr x.1) ∧ True) (by kernel_rfl) (by kernel_rfl) rfl ?_  -- region 9
                intro w147 hN148
                replace B4 := B4.new hN148
                replace B99 := B99.new hN148
                replace B6 := B6.new hN148
                replace B7 := B7.new hN148
                replace B111 := B111.new hN148
                replace hF := hF.trNew hN148
                refine fx_take (i := 0) (v := .pointer (some ⟨b108, 0, none⟩)) fr rfl (by kernel_rfl) rfl rfl (by first | decide | simp) (fun _ _ _ h => h) (fun _ ⟨B4, B99, B6, B7, B111, _⟩ => x_fieldAddr fo60_0 rfl (fr.ev rfl) rfl) ⟨B4, B99, B6, B7, B111, trivial⟩ ?_
                clear fr a; intro a fr
                refine fx_take (i := 1) (v := .pointer (some ⟨b108, 2, none⟩)) fr rfl (by kernel_rfl) rfl rfl (by first | decide | simp) (fun _ _ _ h => h) (fun _ ⟨B4, B99, B6, B7, B111, _⟩ => x_fieldAddr fo24_2 rfl (fr.ev rfl) rfl) ⟨B4, B99, B6, B7, B111, trivial⟩ ?_
                clear fr a; intro a fr
                refine fx_take (i := 2) (v := .int .u32 x.1.value) fr rfl (by kernel_rfl) rfl rfl (by first | decide | simp) (fun _ _ _ h => h) (fun _ ⟨B4, B99, B6, B7, B111, _⟩ => x_load1 pl22 rfl (fr.ev rfl) (B111.cell 2 rfl)) ⟨B4, B99, B6, B7, B111, trivial⟩ ?_
                clear fr a; intro a fr
                refine fx_take (i := 3) (v := .agg (wE.arr (mkS addr wide 0))) fr rfl (by kernel_rfl) rfl rfl (by first | decide | simp) (fun _ _ _ h => h) (fun _ ⟨B4, B99, B6, B7, B111, _⟩ => x_loadE (E := wE) ag60 rfl rfl (fr.ev rfl) (B99.rangeE (P := Try.prog) wE)) ⟨B4, B99, B6, B7, B111, trivial⟩ ?_
                clear fr a; intro a fr
                refine fx_take (i := 5) (v := .agg (wE.arr x.1)) fr rfl (by kernel_rfl) rfl rfl (by first | decide | simp) (fun _ _ _ h => h) (fun _ ⟨B4, B99, B6, B7, B111, _⟩ => x_loadE (E := wE) ag60 rfl rfl (fr.ev rfl) (B111.rangeE (P := Try.prog) wE)) ⟨B4, B99, B6, B7, B111, trivial⟩ ?_
                clear fr a; intro a fr
                refine fx_one (i := 4) (by kernel_rfl) (fx_op rfl ?_)
                refine fx_call fr rfl rfl (by first | decide | simp) (x_call (vs := [.agg (wE.arr (mkS addr wide 0))]) rfl rfl ⟨(fr.ev rfl), trivial⟩ Try.func30 nm30 rfl) (from_c (mkS addr wide 0) _) ?_
                clear fr a
                rintro v w149 ⟨rfl, hN150⟩ a fr
                replace B4 := B4.new hN150
                replace B99 := B99.new hN150
                replace B6 := B6.new hN150
                replace B7 := B7.new hN150
                replace B111 := B111.new hN150
                replace hF := hF.trNew hN150
                refine wpList_nil ?_
                refine ⟨⟨B4, B99, B6, B7, B111, trivial⟩, ?_⟩
                refine fx_one (i := 6) (by kernel_rfl) (fx_op rfl ?_)
                refine fx_call fr rfl rfl (by first | decide | simp) (x_call (vs := [.agg (wE.arr x.1)]) rfl rfl ⟨(fr.ev rfl), trivial⟩ Try.func30 nm30 rfl) (from_c x.1 _) ?_
                clear fr a
                rintro v w151 ⟨rfl, hN152⟩ a fr
                replace B4 := B4.new hN152
                replace B99 := B99.new hN152
                replace B6 := B6.new hN152
                replace B7 := B7.new hN152
                replace B111 := B111.new hN152
                replace hF := hF.trNew hN152
                refine wpList_nil ?_
                refine ⟨⟨B4, B99, B6, B7, B111, trivial⟩, ?_⟩
                refine fx_take (i := 7) (v := .int .u64 (addr - x.1.addr)) fr rfl (by kernel_rfl) rfl rfl (by first | decide | simp) (fun _ _ _ h => h) (fun _ ⟨B4, B99, B6, B7, B111, _⟩ => x_sub rfl (fr.ev rfl) (fr.ev rfl) (u64w (r := addr - x.1.addr) rfl (by omega))) ⟨B4, B99, B6, B7, B111, trivial⟩ ?_
                clear fr a; intro a fr
                refine fx_take (i := 8) (v := .int .u64 (8 * (addr - x.1.addr))) fr rfl (by kernel_rfl) rfl rfl (by first | decide | simp) (fun _ _ _ h => h) (fun _ ⟨B4, B99, B6, B7, B111, _⟩ => x_mul rfl rfl (fr.ev rfl) (u64w (r := 8 * (addr - x.1.addr)) rfl (by omega))) ⟨B4, B99, B6, B7, B111, trivial⟩ ?_
                clear fr a; intro a fr
                refine fx_take (i := 9) (v := .int .u32 (x.1.value.fdiv (2 ^ min (8 * (addr - x.1.addr)).toNat 32))) fr rfl (by kernel_rfl) rfl rfl (by first | decide | simp) (fun _ _ _ h => h) (fun _ ⟨B4, B99, B6, B7, B111, _⟩ => x_shr rfl (fr.ev rfl) (fr.ev rfl) (by omega) rfl) ⟨B4, B99, B6, B7, B111, trivial⟩ ?_
                clear fr a; intro a fr
                refine fx_hdone (by kernel_rfl) ?_
                refine fx_tail ?_
                refine fx_val (v := .int .u32 (x.1.value.fdiv (2 ^ min (8 * (addr - x.1.addr)).toNat 32))) fr rfl rfl (by first | decide | simp) (x_assign rfl (fr.ev rfl)) ?_
                clear fr a; intro a fr
                refine wpList_nil ?_
                refine fx_next ?_
                refine wpIn_seq ?_
                refine wpIn_seq ?_
                obtain ⟨nn, hnn⟩ : ∃ nn, x.1.value.fdiv (2 ^ min (8 * (addr - x.1.addr)).toNat 32) = nn := ⟨_, rfl⟩
                rw [hnn] at fr
                have hsh := shr_bd x.1.hv (min (8 * (addr - x.1.addr)).toNat 32)
                rw [hnn] at hsh
                refine fxr_region (by kernel_rfl) (by rintro ⟨_, _, h⟩; exact h) ?_  -- region 10
                refine fx_val (v := .int .i64 wide) fr rfl rfl (by first | decide | simp) (x_load1 pl3 rfl (fr.ev rfl) (B4.cell 0 rfl)) ?_
                clear fr a; intro a fr
                refine fx_val (v := .bool true) fr rfl rfl (by first | decide | simp) (x_lss rfl (fr.ev rfl) rfl (decide_eq_true (by omega))) ?_
                clear fr a; intro a fr
                refine wpList_nil ?_
                refine fx_next ?_
                refine fxr_cond_t fr rfl ?_
                refine fxr_region (by kernel_rfl) (by rintro ⟨_, _, h⟩; exact h) ?_  -- region 11
                refine fx_val (v := .int .u32 nn) fr rfl rfl (by first | decide | simp) (x_move rfl (fr.ev rfl)) ?_
                clear fr a; intro a fr
                refine fx_val (v := .int .i64 wide) fr rfl rfl (by first | decide | simp) (x_load1 pl3 rfl (fr.ev rfl) (B4.cell 0 rfl)) ?_
                clear fr a; intro a fr
                refine fx_val (v := .int .i64 16) fr rfl rfl (by first | decide | simp) (x_mul rfl rfl (fr.ev rfl) (i64w (r := 16) (by omega) (by omega))) ?_
                clear fr a; intro a fr
                refine fx_val (v := .int .u32 65536) fr rfl rfl (by first | decide | simp) (x_shl rfl rfl (fr.ev rfl) (by omega) (by decide)) ?_
                clear fr a; intro a fr
                refine fx_val (v := .int .u32 65535) fr rfl rfl (by first | decide | simp) (x_sub rfl (fr.ev rfl) rfl (u32w (r := 65535) (by omega) (by omega))) ?_
                clear fr a; intro a fr
                refine fx_val (v := .int .u32 (nn % 65536)) fr rfl rfl (by first | decide | simp) (x_and rfl (fr.ev rfl) (fr.ev rfl) (by have h9 := and_mask32 (m := nn) (j := 16) (by omega) (by omega) (by decide); simpa using h9)) ?_
                clear fr a; intro a fr
                refine fx_val (v := .int .u32 (nn % 65536)) fr rfl rfl (by first | decide | simp) (x_assign rfl (fr.ev rfl)) ?_
                clear fr a; intro a fr
                refine wpList_nil ?_
                refine fx_next ?_
                refine wpIn_seq ?_
                refine fxr_region (by kernel_rfl) (by rintro ⟨_, _, h⟩; exact h) ?_  -- region 12
                refine fx_val (v := .int .u32 (nn % 65536)) fr rfl rfl (by first | decide | simp) (x_move rfl (fr.ev rfl)) ?_
                clear fr a; intro a fr
                refine fx_store1 sz22 rfl rfl rfl (fr.ev rfl) (fr.ev rfl) rfl B6 (show 0 < 1 by decide) (cs' := #[.int .u32 (nn % 65536)]) rfl fun w153 hO154 hBq => ?_
                replace B4 := B4.only hO154 (by first | exact ne_b1_b6 | exact ne_b6_b1.symm | (show ¬ b1 = b6; omega))
                replace B99 := B99.only hO154 (by first | exact ne_b96_b6 | exact ne_b6_b96.symm | (show ¬ b96 = b6; omega))
                replace B7 := B7.only hO154 (by first | exact ne_b11_b6 | exact ne_b6_b11.symm | (show ¬ b11 = b6; omega))
                replace B111 := B111.only hO154 (by first | exact ne_b108_b6 | exact ne_b6_b108.symm | (show ¬ b108 = b6; omega))
                replace hF := hF.loc hO154 (.inl (Or.inl rfl))
                replace B6 := hBq
                clear hBq
                refine fx_store1 sz29 rfl rfl rfl (fr.ev rfl) rfl rfl B7 (show 0 < 1 by decide) (cs' := #[.int .i64 1]) rfl fun w155 hO156 hBq => ?_
                replace B4 := B4.only hO156 (by first | exact ne_b1_b11 | exact ne_b11_b1.symm | (show ¬ b1 = b11; omega))
                replace B99 := B99.only hO156 (by first | exact ne_b96_b11 | exact ne_b11_b96.symm | (show ¬ b96 = b11; omega))
                replace B111 := B111.only hO156 (by first | exact ne_b108_b11 | exact ne_b11_b108.symm | (show ¬ b108 = b11; omega))
                replace B6 := B6.only hO156 (by first | exact ne_b6_b11 | exact ne_b11_b6.symm | (show ¬ b6 = b11; omega))
                replace hF := hF.loc hO156 (.inl (Or.inr (rfl)))
                replace B7 := hBq
                clear hBq
                refine wpList_nil ?_
                refine fx_next ?_
                refine wpIn_ret ?_
                refine fx_rb ?_
                exact ⟨⟨_, hF, hcl⟩, ⟨rfl, nn % 65536, 1, B4, B99, B6, B7, hC.trans hF hSS, ⟨_, _, rfl, hno, (by rw [fwd1_all (by omega) (by omega), ← hnn, hq]; rfl)⟩⟩⟩
      · skip
        rintro D157 W1 hD ⟨B4, B99, B6, B7, hC, hno⟩ hD_D157 a fr
        have g_D157 := Nat.le_trans hF.size hD
        replace H := H.only hC (fun h => h.elim (by first | exact ne_b_b6 | exact ne_b6_b.symm | (show ¬ b = b6; omega)) (by first | exact ne_b_b11 | exact ne_b11_b.symm | (show ¬ b = b11; omega)))
        replace Bn104 := Bn104.only hC (fun h => h.elim (by first | exact ne_bn103_b6 | exact ne_b6_bn103.symm | (show ¬ bn103 = b6; omega)) (by first | exact ne_bn103_b11 | exact ne_b11_bn103.symm | (show ¬ bn103 = b11; omega)))
        replace hF := hF.locS hC (fun i => (fun h => h.elim (fun e => by subst e; exact (.inr g_b6)) (fun e => by subst e; exact (.inr g_b11))))
        have ne_b_D157 := H.mark hD_D157
        have ne_bn103_D157 := Bn104.mark hD_D157
        have ne_b1_D157 := B4.mark hD_D157
        have ne_b96_D157 := B99.mark hD_D157
        have ne_b6_D157 := B6.mark hD_D157
        have ne_b11_D157 := B7.mark hD_D157
        refine fx_blk ?_
        refine fx_next ?_
        refine wp_seq ?_
        refine wp_region_lit ?_  -- region 13
        refine fx_store1 sz22 rfl rfl rfl (fr.ev rfl) rfl rfl B6 (show 0 < 1 by decide) (cs' := #[.int .u32 0]) rfl fun w158 hO159 hBq => ?_
        replace H := H.only hO159 (by first | exact ne_b_b6 | exact ne_b6_b.symm | (show ¬ b = b6; omega))
        replace Bn104 := Bn104.only hO159 (by first | exact ne_bn103_b6 | exact ne_b6_bn103.symm | (show ¬ bn103 = b6; omega))
        replace B4 := B4.only hO159 (by first | exact ne_b1_b6 | exact ne_b6_b1.symm | (show ¬ b1 = b6; omega))
        replace B99 := B99.only hO159 (by first | exact ne_b96_b6 | exact ne_b6_b96.symm | (show ¬ b96 = b6; omega))
        replace B7 := B7.only hO159 (by first | exact ne_b11_b6 | exact ne_b6_b11.symm | (show ¬ b11 = b6; omega))
        replace hD_D157 := hD_D157.only hO159 (by first | exact ne_D157_b6 | exact ne_b6_D157.symm | (show ¬ D157 = b6; omega))
        replace hF := hF.loc hO159 (.inr g_b6)
        replace B6 := hBq
        clear hBq
        refine fx_store1 sz29 rfl rfl rfl (fr.ev rfl) rfl rfl B7 (show 0 < 1 by decide) (cs' := #[.int .i64 0]) rfl fun w160 hO161 hBq => ?_
        replace H := H.only hO161 (by first | exact ne_b_b11 | exact ne_b11_b.symm | (show ¬ b = b11; omega))
        replace Bn104 := Bn104.only hO161 (by first | exact ne_bn103_b11 | exact ne_b11_bn103.symm | (show ¬ bn103 = b11; omega))
        replace B4 := B4.only hO161 (by first | exact ne_b1_b11 | exact ne_b11_b1.symm | (show ¬ b1 = b11; omega))
        replace B99 := B99.only hO161 (by first | exact ne_b96_b11 | exact ne_b11_b96.symm | (show ¬ b96 = b11; omega))
        replace hD_D157 := hD_D157.only hO161 (by first | exact ne_D157_b11 | exact ne_b11_D157.symm | (show ¬ D157 = b11; omega))
        replace B6 := B6.only hO161 (by first | exact ne_b6_b11 | exact ne_b11_b6.symm | (show ¬ b6 = b11; omega))
        replace hF := hF.loc hO161 (.inr g_b11)
        replace B7 := hBq
        clear hBq
        refine wpList_nil ?_
        refine fx_next ?_
        refine wp_ret ?_
        refine fx_retM1 fr g_D157 hD_D157 [.cell 6 22, .cell 7 29] [.int .u32 0, .int .i64 0] rfl rfl ?_
        intro wE hT
        replace H := H.turn hT
        replace Bn104 := Bn104.turn hT
        replace B4 := B4.turn hT
        replace B99 := B99.turn hT
        replace B6 := B6.turn hT
        replace B7 := B7.turn hT
        replace hF := hF.turn hT (Nat.le_refl _)
        refine ⟨⟨⟨_, rfl, x_loadV1 pl22 (B6.cell 0 rfl)⟩, ⟨_, rfl, x_loadV1 pl29 (B7.cell 0 rfl)⟩, trivial⟩, ?_⟩
        have hf : fwd l addr wide = (0, 0) := by unfold fwd; rw [if_pos ⟨by rw [hq]; rfl, by rw [hq]; omega⟩]; exact fdone hno
        rw [hf]
        exact ⟨_, rfl, rfl, hF⟩
      · skip
        rintro D157 c pre W1 hD hpre (⟨rfl, n, k, B4, B99, B6, B7, hC, hst⟩) hD_D157 a fr
        have g_D157 := Nat.le_trans hF.size hD
        replace H := H.only hC (fun h => h.elim (by first | exact ne_b_b6 | exact ne_b6_b.symm | (show ¬ b = b6; omega)) (by first | exact ne_b_b11 | exact ne_b11_b.symm | (show ¬ b = b11; omega)))
        replace Bn104 := Bn104.only hC (fun h => h.elim (by first | exact ne_bn103_b6 | exact ne_b6_bn103.symm | (show ¬ bn103 = b6; omega)) (by first | exact ne_bn103_b11 | exact ne_b11_bn103.symm | (show ¬ bn103 = b11; omega)))
        replace hF := hF.locS hC (fun i => (fun h => h.elim (fun e => by subst e; exact (.inr g_b6)) (fun e => by subst e; exact (.inr g_b11))))
        have ne_b_D157 := H.mark hD_D157
        have ne_bn103_D157 := Bn104.mark hD_D157
        have ne_b1_D157 := B4.mark hD_D157
        have ne_b96_D157 := B99.mark hD_D157
        have ne_b6_D157 := B6.mark hD_D157
        have ne_b11_D157 := B7.mark hD_D157
        refine wp_ret ?_
        refine fx_rb ?_
        refine fx_rt ?_
        refine fx_retM1 fr g_D157 hD_D157 [.cell 6 22, .cell 7 29] [.int .u32 n, .int .i64 k] rfl rfl ?_
        intro wE hT
        replace H := H.turn hT
        replace Bn104 := Bn104.turn hT
        replace B4 := B4.turn hT
        replace B99 := B99.turn hT
        replace B6 := B6.turn hT
        replace B7 := B7.turn hT
        replace hF := hF.turn hT (Nat.le_refl _)
        refine ⟨⟨⟨_, rfl, x_loadV1 pl22 (B6.cell 0 rfl)⟩, ⟨_, rfl, x_loadV1 pl29 (B7.cell 0 rfl)⟩, trivial⟩, ?_⟩
        have hf : fwd l addr wide = (n, k) := by unfold fwd; rw [if_pos ⟨by rw [hq]; rfl, by rw [hq]; omega⟩]; exact hst.eq hpre
        rw [hf]
        exact ⟨_, rfl, rfl, hF⟩
  · skip
    refine wp_region_lit ?_  -- region 1
    refine fx_val (v := .int .i64 wide) fr rfl rfl (by first | decide | simp) (x_load1 pl3 rfl (fr.ev rfl) (B4.cell 0 rfl)) ?_
    clear fr a; intro a fr
    refine fx_call fr rfl rfl (by first | decide | simp) (x_call (vs := [.int .i64 wide]) rfl rfl ⟨(fr.ev rfl), trivial⟩ Try.func27 nm27 rfl) (width_c wide _) ?_
    clear fr a
    rintro v w9 ⟨rfl, hw9⟩ a fr
    obtain rfl := hw9.symm
    rw [show wOk wide = true from (by first | rfl | (rw [show wide = 4 by omega]; rfl))] at fr
    refine fx_val (v := .bool false) fr rfl rfl (by first | decide | simp) (x_not rfl (fr.ev rfl) rfl) ?_
    clear fr a; intro a fr
    refine fx_val (v := .bool false) fr rfl rfl (by first | decide | simp) (x_move rfl (fr.ev rfl)) ?_
    clear fr a; intro a fr
    refine fx_val (v := .int .u32 addr) fr (fr.want rfl rfl rfl) rfl (by first | decide | simp) (x_move rfl (fr.ev rfl)) ?_
    clear fr a; intro a fr
    refine fx_val (v := .int .i64 wide) fr (fr.want rfl rfl rfl) rfl (by first | decide | simp) (x_load1 pl3 rfl (fr.ev rfl) (B4.cell 0 rfl)) ?_
    clear fr a; intro a fr
    refine fx_val (v := .int .u32 4) fr (fr.want rfl rfl rfl) rfl (by first | decide | simp) (x_convert Try.underlying3 Try.underlying22 rfl (fr.ev rfl) (u32w (r := 4) (by omega) (by omega))) ?_
    clear fr a; intro a fr
    refine fx_val (v := .int .u32 (addr % 4)) fr (fr.want rfl rfl rfl) rfl (by first | decide | simp) (x_rem rfl (fr.ev rfl) (fr.ev rfl) (by omega) (r := addr % 4) (by first | exact rem_nn (by omega) | (rw [show 4 = 4 by omega]; exact rem_nn (by omega)))) ?_
    clear fr a; intro a fr
    refine fx_val (v := .bool (decide (addr % 4 ≠ 0))) fr (fr.want rfl rfl rfl) rfl (by first | decide | simp) (x_neq rfl (fr.ev rfl) rfl rfl) ?_
    clear fr a; intro a fr
    refine fx_val (v := .bool (decide (addr % 4 ≠ 0))) fr rfl rfl (by first | decide | simp) (x_pick_f rfl (fr.ev rfl) (fr.ev rfl)) ?_
    clear fr a; intro a fr
    refine wpList_nil ?_
    refine fx_next ?_
    refine fx_cond fr rfl (fun hc164 => ?_) (fun hc164 => ?_)
    · skip
      have hc164 := of_decide_eq_true hc164
      refine wp_seq ?_
      refine wp_region_lit ?_  -- region 2
      refine fx_store1 sz22 rfl rfl rfl (fr.ev rfl) rfl rfl B9 (show 0 < 1 by decide) (cs' := #[.int .u32 0]) rfl fun w165 hO166 hBq => ?_
      replace H := H.only hO166 (by first | exact ne_b_b6 | exact ne_b6_b.symm | (show ¬ b = b6; omega))
      replace B4 := B4.only hO166 (by first | exact ne_b1_b6 | exact ne_b6_b1.symm | (show ¬ b1 = b6; omega))
      replace B14 := B14.only hO166 (by first | exact ne_b11_b6 | exact ne_b6_b11.symm | (show ¬ b11 = b6; omega))
      replace hF := hF.loc hO166 (.inr g_b6)
      replace B9 := hBq
      clear hBq
      refine fx_store1 sz29 rfl rfl rfl (fr.ev rfl) rfl rfl B14 (show 0 < 1 by decide) (cs' := #[.int .i64 0]) rfl fun w167 hO168 hBq => ?_
      replace H := H.only hO168 (by first | exact ne_b_b11 | exact ne_b11_b.symm | (show ¬ b = b11; omega))
      replace B4 := B4.only hO168 (by first | exact ne_b1_b11 | exact ne_b11_b1.symm | (show ¬ b1 = b11; omega))
      replace B9 := B9.only hO168 (by first | exact ne_b6_b11 | exact ne_b11_b6.symm | (show ¬ b6 = b11; omega))
      replace hF := hF.loc hO168 (.inr g_b11)
      replace B14 := hBq
      clear hBq
      refine wpList_nil ?_
      refine fx_next ?_
      refine wp_ret ?_
      refine fx_rt ?_
      refine fx_retM0 fr [.cell 6 22, .cell 7 29] [.int .u32 0, .int .i64 0] rfl ⟨⟨_, rfl, x_loadV1 pl22 (B9.cell 0 rfl)⟩, ⟨_, rfl, x_loadV1 pl29 (B14.cell 0 rfl)⟩, trivial⟩ rfl ?_
      have hf : fwd l addr wide = (0, 0) := by unfold fwd; rw [if_neg (fun h => by have := h.2; rw [hq] at this; omega)]
      rw [hf]
      exact ⟨_, rfl, rfl, hF⟩
    · skip
      have hc164 := of_decide_eq_false hc164
      refine wp_skip ?_
      refine fx_next ?_
      refine wp_seq ?_
      refine wp_region_lit ?_  -- region 3
      refine fx_val (v := .int .u32 addr) fr rfl rfl (by first | decide | simp) (x_move rfl (fr.ev rfl)) ?_
      clear fr a; intro a fr
      refine fx_val (v := .int .i64 wide) fr rfl rfl (by first | decide | simp) (x_load1 pl3 rfl (fr.ev rfl) (B4.cell 0 rfl)) ?_
      clear fr a; intro a fr
      refine fx_val (v := .agg (stE.arr (mkS addr wide 0))) fr rfl rfl (by first | decide | simp) (x_build (cells := stE.arr (mkS addr wide 0)) rfl (by simp only [List.map_toArray, List.map_cons, List.map_nil, show a.eval (.tmp 21) = .int .u32 addr from fr.ev rfl, show a.eval (.tmp 22) = .int .i64 wide from fr.ev rfl]; kernel_rfl)) ?_
      clear fr a; intro a fr
      refine fx_val (v := .agg (wE.arr (mkS addr wide 0))) fr rfl rfl (by first | decide | simp) (x_build (cells := wE.arr (mkS addr wide 0)) rfl (by simp only [List.map_toArray, List.map_cons, List.map_nil, show a.eval (.tmp 23) = .agg (stE.arr (mkS addr wide 0)) from fr.ev rfl]; kernel_rfl)) ?_
      clear fr a; intro a fr
      refine fx_new fr rfl rfl (by first | decide | simp) (x_alloc (z := .agg (#[.int .u32 0, .int .i64 0, .int .u32 0])) (cs := wE.arr st0) rfl (by kernel_rfl) rfl) ?_
      clear fr a
      intro b169 w170 hN171 B172 hb173 a fr
      have ne_b_b169 : NE b b169 := NE.mk (Nat.lt_of_lt_of_le H.lt hb173)
      have ne_b1_b169 : NE b1 b169 := NE.mk (Nat.lt_of_lt_of_le B4.lt hb173)
      have ne_b6_b169 : NE b6 b169 := NE.mk (Nat.lt_of_lt_of_le B9.lt hb173)
      have ne_b11_b169 : NE b11 b169 := NE.mk (Nat.lt_of_lt_of_le B14.lt hb173)
      have g_b169 := Nat.le_trans hF.size hb173
      replace H := H.new hN171
      replace B4 := B4.new hN171
      replace B9 := B9.new hN171
      replace B14 := B14.new hN171
      replace hF := hF.trNew hN171
      refine fx_storeS sz60 rfl rfl rfl (fr.ev rfl) (fr.ev rfl) (wE.all _) B172 (wE.size _) (wE.size _) fun w174 hO175 hBq => ?_
      replace H := H.only hO175 (by first | exact ne_b_b169 | exact ne_b169_b.symm | (show ¬ b = b169; omega))
      replace B4 := B4.only hO175 (by first | exact ne_b1_b169 | exact ne_b169_b1.symm | (show ¬ b1 = b169; omega))
      replace B9 := B9.only hO175 (by first | exact ne_b6_b169 | exact ne_b169_b6.symm | (show ¬ b6 = b169; omega))
      replace B14 := B14.only hO175 (by first | exact ne_b11_b169 | exact ne_b169_b11.symm | (show ¬ b11 = b169; omega))
      replace hF := hF.loc hO175 (.inr g_b169)
      replace B172 := hBq
      clear hBq
      refine wpList_nil ?_
      refine fx_next ?_
      refine wp_seq ?_
      refine wp_seq ?_
      refine wp_region_lit ?_  -- region 4
      refine fx_val (v := .pointer (some ⟨b, 0, none⟩)) fr rfl rfl (by first | decide | simp) (x_move rfl (fr.ev rfl)) ?_
      clear fr a; intro a fr
      refine fx_call fr rfl rfl (by first | decide | simp) (x_call (vs := [.pointer (some ⟨b, 0, none⟩)]) rfl rfl ⟨(fr.ev rfl), trivial⟩ Try.func28 nm28 rfl) (back_c _) ?_
      clear fr a
      rintro v w179 ⟨bn176, rfl, Bn177, hb178, hN180⟩ a fr
      have ne_b_bn176 : NE b bn176 := NE.mk (Nat.lt_of_lt_of_le H.lt hb178)
      have ne_b1_bn176 : NE b1 bn176 := NE.mk (Nat.lt_of_lt_of_le B4.lt hb178)
      have ne_b6_bn176 : NE b6 bn176 := NE.mk (Nat.lt_of_lt_of_le B9.lt hb178)
      have ne_b11_bn176 : NE b11 bn176 := NE.mk (Nat.lt_of_lt_of_le B14.lt hb178)
      have ne_b169_bn176 : NE b169 bn176 := NE.mk (Nat.lt_of_lt_of_le B172.lt hb178)
      have g_bn176 := Nat.le_trans hF.size hb178
      replace H := H.new hN180
      replace B4 := B4.new hN180
      replace B9 := B9.new hN180
      replace B14 := B14.new hN180
      replace B172 := B172.new hN180
      replace hF := hF.trNew hN180
      refine wpList_nil ?_
      refine fx_next ?_
      refine wp_block ?_
      have lt_b1 := B4.lt
      have lt_b169 := B172.lt
      have lt_b6 := B9.lt
      have lt_b11 := B14.lt
      refine fx_range (xs := l.reverse) (e := fun x : VSt => Value.agg (stE.arr x.1)) fr rfl (by decide) (enters_of Try.func37 nm37 rfl) (SI := fun k => k = b6 ∨ k = b11 ∨ w179.heap.size ≤ k) (fun _ h => Or.inr (Or.inr (h))) (all_stops H Bn177 (fun h => h.elim (by first | exact ne_bn176_b6 | exact ne_b6_bn176.symm | (show ¬ bn176 = b6; omega)) (fun h => h.elim (by first | exact ne_bn176_b11 | exact ne_b11_bn176.symm | (show ¬ bn176 = b11; omega)) (fun h => by have := Bn177.lt; omega))) (fun h => h.elim (by first | exact ne_b_b6 | exact ne_b6_b.symm | (show ¬ b = b6; omega)) (fun h => h.elim (by first | exact ne_b_b11 | exact ne_b11_b.symm | (show ¬ b = b11; omega)) (fun h => by have := H.lt; omega)))) (fun pre W => Blk W b1 3 (#[.int .i64 wide]) ∧ Blk W b169 60 (wE.arr (mkS addr wide 0)) ∧ Blk W b6 22 #[.int .u32 0] ∧ Blk W b11 29 #[.int .i64 0] ∧ Only (fun k => k = b6 ∨ k = b11) w179 W ∧ ∀ y ∈ pre, fwd1 addr wide y.1 = none) (fun c pre W => (c = .ret ∧ ∃ n : Int, ∃ k : Int, Blk W b1 3 (#[.int .i64 wide]) ∧ Blk W b169 60 (wE.arr (mkS addr wide 0)) ∧ Blk W b6 22 #[.int .u32 n] ∧ Blk W b11 29 #[.int .i64 k] ∧ Only (fun k => k = b6 ∨ k = b11) w179 W ∧ FStop addr wide pre (n, k))) (fun x a' W => ∃ b181 : Nat, Blk W b181 60 (wE.arr x.1) ∧ w179.heap.size ≤ b181 ∧ Fr (73, []) [(0, .pointer (some ⟨b, 0, none⟩)), (1, .int .u32 addr), (2, .int .i64 wide), (5, .pointer (some ⟨b1, 0, none⟩)), (6, .pointer (some ⟨b6, 0, none⟩)), (7, .pointer (some ⟨b11, 0, none⟩)), (11, .int .i64 wide), (12, .bool true), (13, .bool false), (14, .bool false), (15, .int .u32 addr), (16, .int .i64 wide), (17, .int .u32 4), (18, .int .u32 (addr % 4)), (19, .bool (decide (addr % 4 ≠ 0))), (20, .bool (decide (addr % 4 ≠ 0))), (21, .int .u32 addr), (22, .int .i64 wide), (23, .agg (stE.arr (mkS addr wide 0))), (24, .agg (wE.arr (mkS addr wide 0))), (8, .pointer (some ⟨b169, 0, none⟩)), (25, .pointer (some ⟨b, 0, none⟩)), (26, .func (.func 37) #[] #[.pointer (some ⟨bn176, 0, none⟩)]), (27, .agg (wE.arr x.1)), (9, .pointer (some ⟨b181, 0, none⟩))] a') ?_ ?_ ?_ ?_ ⟨B4, B172, B9, B14, Only.refl _ _, (fun y hy => by simp at hy)⟩ ?_ ?_ ?_ ?_
      · rintro pre W W' ⟨B4, B172, B6, B7, hC, hno⟩ hT; exact ⟨B4.turn hT, B172.turn hT, B6.turn hT, B7.turn hT, hC.turn hT (Nat.le_refl _), hno⟩
      · rintro c pre W W' (⟨rfl, n, k, B4, B172, B6, B7, hC, hst⟩) hT
        exact ⟨rfl, n, k, B4.turn hT, B172.turn hT, B6.turn hT, B7.turn hT, hC.turn hT (Nat.le_refl _), hst⟩
      · rintro x a' _ W W' ⟨b181, B184, h_b181, hf⟩ hT; exact ⟨b181, B184.turn hT, h_b181, hf⟩
      · rintro pre W W' ⟨B4, B172, B6, B7, hC, hno⟩ hN; exact ⟨B4.new hN, B172.new hN, B6.new hN, B7.new hN, hC.trNew hN, hno⟩
      · skip
        rintro l pre x W K ⟨B4, B172, B6, B7, hC, hno⟩ hK a fr
        have hF := Only.refl (fun _ => False) W
        refine fxr_region (by kernel_rfl) (by rintro ⟨_, _, h⟩; exact h) ?_  -- region 5
        refine fx_new fr rfl rfl (by first | decide | simp) (x_alloc (z := .agg (#[.int .u32 0, .int .i64 0, .int .u32 0])) (cs := wE.arr st0) rfl (by kernel_rfl) rfl) ?_
        clear fr a
        intro b181 w182 hN183 B184 hb185 a fr
        have g_b181 := Nat.le_trans hF.size hb185
        replace hF := hF.trNew hN183
        refine fx_storeS sz60 rfl rfl rfl (fr.ev rfl) (fr.ev rfl) (wE.all _) B184 (wE.size _) (wE.size _) fun w186 hO187 hBq => ?_
        replace hF := hF.loc hO187 (.inr g_b181)
        replace B184 := hBq
        clear hBq
        refine wpList_nil ?_
        refine hK _ _ hF ⟨b181, B184, Nat.le_trans hC.size g_b181, fr.sub ⟨rfl, rfl, rfl, rfl, rfl, rfl, rfl, rfl, rfl, rfl, rfl, rfl, rfl, rfl, rfl, rfl, rfl, rfl, rfl, rfl, rfl, rfl, rfl, rfl, rfl, trivial⟩⟩
      · skip
        rintro lq pre x a W ⟨B4, B172, B6, B7, hC, hno⟩ ⟨b181, B184, h_b181, fr⟩ hlen
        have ne_b1_b181 : NE b1 b181 := NE.mk (Nat.lt_of_lt_of_le lt_b1 h_b181)
        have ne_b169_b181 : NE b169 b181 := NE.mk (Nat.lt_of_lt_of_le lt_b169 h_b181)
        have ne_b6_b181 : NE b6 b181 := NE.mk (Nat.lt_of_lt_of_le lt_b6 h_b181)
        have ne_b11_b181 : NE b11 b181 := NE.mk (Nat.lt_of_lt_of_le lt_b11 h_b181)
        have cl_b6 := B6.cells
        have cl_b11 := B7.cells
        have hF := Only.refl (fun k => k = b6 ∨ k = b11) W
        have hcl : ∀ k, k < W.heap.size → (fun k => k = b6 ∨ k = b11) k → (fun k => k = b6 ∨ k = b11 ∨ w179.heap.size ≤ k) k ∧ ∃ o : Obj, W.heap[k]? = some o ∧ o.isCells = true := by
          rintro k _ (rfl | rfl)
          · exact ⟨Or.inl rfl, cl_b6⟩
          · exact ⟨Or.inr (Or.inl rfl), cl_b11⟩
        have hSS : ∀ k, k < w179.heap.size → (fun k => k = b6 ∨ k = b11) k → (fun k => k = b6 ∨ k = b11) k := by
          rintro k hk (rfl | rfl)
          · exact Or.inl rfl
          · exact Or.inr (rfl)
        obtain ⟨hxs, hxm⟩ := x.spec
        have hxa := x.1.ha
        have hxv := x.1.hv
        refine wpIn_block ?_
        refine wpIn_seq ?_
        refine wpIn_block ?_
        refine wpIn_seq ?_
        refine fxr_held (k := 13) (by kernel_rfl) (by rintro ⟨_, _, h⟩; exact h) (fun w => Blk w b1 3 (#[.int .i64 wide]) ∧ Blk w b169 60 (wE.arr (mkS addr wide 0)) ∧ Blk w b6 22 #[.int .u32 0] ∧ Blk w b11 29 #[.int .i64 0] ∧ Blk w b181 60 (wE.arr x.1) ∧ True) (by kernel_rfl) rfl ?_  -- region 6
        intro w188 hN189
        replace B4 := B4.new hN189
        replace B172 := B172.new hN189
        replace B6 := B6.new hN189
        replace B7 := B7.new hN189
        replace B184 := B184.new hN189
        replace hF := hF.trNew hN189
        refine fx_take (i := 0) (v := .agg (wE.arr (mkS addr wide 0))) fr rfl (by kernel_rfl) rfl rfl (by first | decide | simp) (fun _ _ _ h => h) (fun _ ⟨B4, B172, B6, B7, B184, _⟩ => x_loadE (E := wE) ag60 rfl rfl (fr.ev rfl) (B172.rangeE (P := Try.prog) wE)) ⟨B4, B172, B6, B7, B184, trivial⟩ ?_
        clear fr a; intro a fr
        refine fx_take (i := 2) (v := .agg (wE.arr x.1)) fr rfl (by kernel_rfl) rfl rfl (by first | decide | simp) (fun _ _ _ h => h) (fun _ ⟨B4, B172, B6, B7, B184, _⟩ => x_loadE (E := wE) ag60 rfl rfl (fr.ev rfl) (B184.rangeE (P := Try.prog) wE)) ⟨B4, B172, B6, B7, B184, trivial⟩ ?_
        clear fr a; intro a fr
        refine fx_one (i := 1) (by kernel_rfl) (fx_op rfl ?_)
        refine fx_call fr rfl rfl (by first | decide | simp) (x_call (vs := [.agg (wE.arr (mkS addr wide 0))]) rfl rfl ⟨(fr.ev rfl), trivial⟩ Try.func29 nm29 rfl) (until_c (mkS addr wide 0) _ (by show 1 ≤ wide ∧ wide ≤ 4; omega)) ?_
        clear fr a
        rintro v w190 ⟨rfl, hN191⟩ a fr
        replace B4 := B4.new hN191
        replace B172 := B172.new hN191
        replace B6 := B6.new hN191
        replace B7 := B7.new hN191
        replace B184 := B184.new hN191
        replace hF := hF.trNew hN191
        refine wpList_nil ?_
        refine ⟨⟨B4, B172, B6, B7, B184, trivial⟩, ?_⟩
        refine fx_one (i := 3) (by kernel_rfl) (fx_op rfl ?_)
        refine fx_call fr rfl rfl (by first | decide | simp) (x_call (vs := [.agg (wE.arr x.1)]) rfl rfl ⟨(fr.ev rfl), trivial⟩ Try.func30 nm30 rfl) (from_c x.1 _) ?_
        clear fr a
        rintro v w192 ⟨rfl, hN193⟩ a fr
        replace B4 := B4.new hN193
        replace B172 := B172.new hN193
        replace B6 := B6.new hN193
        replace B7 := B7.new hN193
        replace B184 := B184.new hN193
        replace hF := hF.trNew hN193
        refine wpList_nil ?_
        refine ⟨⟨B4, B172, B6, B7, B184, trivial⟩, ?_⟩
        refine fx_take (i := 4) (v := .bool (decide (addr + wide ≤ x.1.addr))) fr rfl (by kernel_rfl) rfl rfl (by first | decide | simp) (fun _ _ _ h => h) (fun _ ⟨B4, B172, B6, B7, B184, _⟩ => x_leq rfl (fr.ev rfl) (fr.ev rfl) rfl) ⟨B4, B172, B6, B7, B184, trivial⟩ ?_
        clear fr a; intro a fr
        refine fx_take (i := 5) (v := .bool (decide (addr + wide ≤ x.1.addr))) fr rfl (by kernel_rfl) rfl rfl (by first | decide | simp) (fun _ _ _ h => h) (fun _ ⟨B4, B172, B6, B7, B184, _⟩ => x_move rfl (fr.ev rfl)) ⟨B4, B172, B6, B7, B184, trivial⟩ ?_
        clear fr a; intro a fr
        refine fx_takemay (i := 6) (g := !(decide (addr + wide ≤ x.1.addr))) (v := .agg (wE.arr x.1)) fr rfl (by kernel_rfl) rfl rfl rfl (by simp) rfl (by first | decide | simp) (fun _ _ _ _ h => h) (fun hg _ ⟨B4, B172, B6, B7, B184, _⟩ => x_loadE (E := wE) ag60 rfl rfl (fr.ev rfl) (B184.rangeE (P := Try.prog) wE)) ⟨B4, B172, B6, B7, B184, trivial⟩ ?_
        clear fr a; intro a fr
        refine fx_takemay (i := 8) (g := !(decide (addr + wide ≤ x.1.addr))) (v := .agg (wE.arr (mkS addr wide 0))) fr rfl (by kernel_rfl) rfl rfl rfl (by simp) rfl (by first | decide | simp) (fun _ _ _ _ h => h) (fun hg _ ⟨B4, B172, B6, B7, B184, _⟩ => x_loadE (E := wE) ag60 rfl rfl (fr.ev rfl) (B172.rangeE (P := Try.prog) wE)) ⟨B4, B172, B6, B7, B184, trivial⟩ ?_
        clear fr a; intro a fr
        refine fx_one (i := 7) (by kernel_rfl) (fx_op rfl ?_)
        rcases Bool.eq_false_or_eq_true (decide (addr + wide ≤ x.1.addr)) with hc194 | hc194
        · skip
          rw [hc194] at fr
          have hc194 := of_decide_eq_true hc194
          refine fx_skip fr (fr.unwant rfl rfl rfl (by decide)) rfl (by first | decide | simp) ?_
          clear fr a; intro a fr
          refine wpList_nil ?_
          refine ⟨⟨B4, B172, B6, B7, B184, trivial⟩, ?_⟩
          refine fx_takeskip (i := 9) fr rfl (by kernel_rfl) (fr.unwant rfl rfl rfl (by decide)) rfl (by first | decide | simp) (fun _ _ _ h => h) ⟨B4, B172, B6, B7, B184, trivial⟩ ?_
          clear fr a; intro a fr
          refine fx_takeskip (i := 10) fr rfl (by kernel_rfl) (fr.unwant rfl rfl rfl (by decide)) rfl (by first | decide | simp) (fun _ _ _ h => h) ⟨B4, B172, B6, B7, B184, trivial⟩ ?_
          clear fr a; intro a fr
          refine fx_take (i := 11) (v := .bool true) fr rfl (by kernel_rfl) rfl rfl (by first | decide | simp) (fun _ _ _ h => h) (fun _ ⟨B4, B172, B6, B7, B184, _⟩ => x_pick_t rfl (fr.ev rfl) rfl) ⟨B4, B172, B6, B7, B184, trivial⟩ ?_
          clear fr a; intro a fr
          refine fx_take (i := 12) (v := .bool true) fr rfl (by kernel_rfl) rfl rfl (by first | decide | simp) (fun _ _ _ h => h) (fun _ ⟨B4, B172, B6, B7, B184, _⟩ => x_assign rfl (fr.ev rfl)) ⟨B4, B172, B6, B7, B184, trivial⟩ ?_
          clear fr a; intro a fr
          refine fx_hdone (by kernel_rfl) ?_
          refine fx_next ?_
          refine fxr_cond_t fr rfl ?_
          refine wpIn_exit ?_
          refine fx_xb (by decide) ?_
          refine fx_xt ?_
          refine fx_xx ?_
          exact ⟨⟨_, hF, hcl⟩, B4, B172, B6, B7, hC.trans hF hSS, (fno_step hno (fwd1_none (by omega)))⟩
        · skip
          rw [hc194] at fr
          have hc194 := of_decide_eq_false hc194
          refine fx_call fr (fr.want rfl rfl rfl) rfl (by first | decide | simp) (x_call (vs := [.agg (wE.arr x.1)]) rfl rfl ⟨((fr.ev rfl).trans (onlyIf_t rfl)), trivial⟩ Try.func29 nm29 rfl) (until_c x.1 _ (by omega)) ?_
          clear fr a
          rintro v w195 ⟨rfl, hN196⟩ a fr
          replace B4 := B4.new hN196
          replace B172 := B172.new hN196
          replace B6 := B6.new hN196
          replace B7 := B7.new hN196
          replace B184 := B184.new hN196
          replace hF := hF.trNew hN196
          refine wpList_nil ?_
          refine ⟨⟨B4, B172, B6, B7, B184, trivial⟩, ?_⟩
          refine fx_one (i := 9) (by kernel_rfl) (fx_op rfl ?_)
          refine fx_call fr (fr.want rfl rfl rfl) rfl (by first | decide | simp) (x_call (vs := [.agg (wE.arr (mkS addr wide 0))]) rfl rfl ⟨((fr.ev rfl).trans (onlyIf_t rfl)), trivial⟩ Try.func30 nm30 rfl) (from_c (mkS addr wide 0) _) ?_
          clear fr a
          rintro v w197 ⟨rfl, hN198⟩ a fr
          replace B4 := B4.new hN198
          replace B172 := B172.new hN198
          replace B6 := B6.new hN198
          replace B7 := B7.new hN198
          replace B184 := B184.new hN198
          replace hF := hF.trNew hN198
          refine wpList_nil ?_
          refine ⟨⟨B4, B172, B6, B7, B184, trivial⟩, ?_⟩
          refine fx_take (i := 10) (v := .bool (decide (x.1.addr + x.1.width ≤ addr))) fr rfl (by kernel_rfl) (fr.want rfl rfl rfl) rfl (by first | decide | simp) (fun _ _ _ h => h) (fun _ ⟨B4, B172, B6, B7, B184, _⟩ => x_leq rfl (fr.ev rfl) (fr.ev rfl) rfl) ⟨B4, B172, B6, B7, B184, trivial⟩ ?_
          clear fr a; intro a fr
          refine fx_take (i := 11) (v := .bool (decide (x.1.addr + x.1.width ≤ addr))) fr rfl (by kernel_rfl) rfl rfl (by first | decide | simp) (fun _ _ _ h => h) (fun _ ⟨B4, B172, B6, B7, B184, _⟩ => x_pick_f rfl (fr.ev rfl) (fr.ev rfl)) ⟨B4, B172, B6, B7, B184, trivial⟩ ?_
          clear fr a; intro a fr
          refine fx_take (i := 12) (v := .bool (decide (x.1.addr + x.1.width ≤ addr))) fr rfl (by kernel_rfl) rfl rfl (by first | decide | simp) (fun _ _ _ h => h) (fun _ ⟨B4, B172, B6, B7, B184, _⟩ => x_assign rfl (fr.ev rfl)) ⟨B4, B172, B6, B7, B184, trivial⟩ ?_
          clear fr a; intro a fr
          refine fx_hdone (by kernel_rfl) ?_
          refine fx_next ?_
          refine fxr_cond fr rfl (fun hc199 => ?_) (fun hc199 => ?_)
          · skip
            have hc199 := of_decide_eq_true hc199
            refine wpIn_exit ?_
            refine fx_xb (by decide) ?_
            refine fx_xt ?_
            refine fx_xx ?_
            exact ⟨⟨_, hF, hcl⟩, B4, B172, B6, B7, hC.trans hF hSS, (fno_step hno (fwd1_none (by omega)))⟩
          · skip
            have hc199 := of_decide_eq_false hc199
            refine wpIn_seq ?_
            refine fxr_held (k := 13) (by kernel_rfl) (by rintro ⟨_, _, h⟩; exact h) (fun w => Blk w b1 3 (#[.int .i64 wide]) ∧ Blk w b169 60 (wE.arr (mkS addr wide 0)) ∧ Blk w b6 22 #[.int .u32 0] ∧ Blk w b11 29 #[.int .i64 0] ∧ Blk w b181 60 (wE.arr x.1) ∧ True) (by kernel_rfl) rfl ?_  -- region 7
            intro w200 hN201
            replace B4 := B4.new hN201
            replace B172 := B172.new hN201
            replace B6 := B6.new hN201
            replace B7 := B7.new hN201
            replace B184 := B184.new hN201
            replace hF := hF.trNew hN201
            refine fx_take (i := 0) (v := .agg (wE.arr (mkS addr wide 0))) fr rfl (by kernel_rfl) rfl rfl (by first | decide | simp) (fun _ _ _ h => h) (fun _ ⟨B4, B172, B6, B7, B184, _⟩ => x_loadE (E := wE) ag60 rfl rfl (fr.ev rfl) (B172.rangeE (P := Try.prog) wE)) ⟨B4, B172, B6, B7, B184, trivial⟩ ?_
            clear fr a; intro a fr
            refine fx_take (i := 2) (v := .agg (wE.arr x.1)) fr rfl (by kernel_rfl) rfl rfl (by first | decide | simp) (fun _ _ _ h => h) (fun _ ⟨B4, B172, B6, B7, B184, _⟩ => x_loadE (E := wE) ag60 rfl rfl (fr.ev rfl) (B184.rangeE (P := Try.prog) wE)) ⟨B4, B172, B6, B7, B184, trivial⟩ ?_
            clear fr a; intro a fr
            refine fx_one (i := 1) (by kernel_rfl) (fx_op rfl ?_)
            refine fx_call fr rfl rfl (by first | decide | simp) (x_call (vs := [.agg (wE.arr (mkS addr wide 0))]) rfl rfl ⟨(fr.ev rfl), trivial⟩ Try.func30 nm30 rfl) (from_c (mkS addr wide 0) _) ?_
            clear fr a
            rintro v w202 ⟨rfl, hN203⟩ a fr
            replace B4 := B4.new hN203
            replace B172 := B172.new hN203
            replace B6 := B6.new hN203
            replace B7 := B7.new hN203
            replace B184 := B184.new hN203
            replace hF := hF.trNew hN203
            refine wpList_nil ?_
            refine ⟨⟨B4, B172, B6, B7, B184, trivial⟩, ?_⟩
            refine fx_one (i := 3) (by kernel_rfl) (fx_op rfl ?_)
            refine fx_call fr rfl rfl (by first | decide | simp) (x_call (vs := [.agg (wE.arr x.1)]) rfl rfl ⟨(fr.ev rfl), trivial⟩ Try.func30 nm30 rfl) (from_c x.1 _) ?_
            clear fr a
            rintro v w204 ⟨rfl, hN205⟩ a fr
            replace B4 := B4.new hN205
            replace B172 := B172.new hN205
            replace B6 := B6.new hN205
            replace B7 := B7.new hN205
            replace B184 := B184.new hN205
            replace hF := hF.trNew hN205
            refine wpList_nil ?_
            refine ⟨⟨B4, B172, B6, B7, B184, trivial⟩, ?_⟩
            refine fx_take (i := 4) (v := .bool (decide (addr < x.1.addr))) fr rfl (by kernel_rfl) rfl rfl (by first | decide | simp) (fun _ _ _ h => h) (fun _ ⟨B4, B172, B6, B7, B184, _⟩ => x_lss rfl (fr.ev rfl) (fr.ev rfl) rfl) ⟨B4, B172, B6, B7, B184, trivial⟩ ?_
            clear fr a; intro a fr
            refine fx_take (i := 5) (v := .bool (decide (addr < x.1.addr))) fr rfl (by kernel_rfl) rfl rfl (by first | decide | simp) (fun _ _ _ h => h) (fun _ ⟨B4, B172, B6, B7, B184, _⟩ => x_move rfl (fr.ev rfl)) ⟨B4, B172, B6, B7, B184, trivial⟩ ?_
            clear fr a; intro a fr
            refine fx_takemay (i := 6) (g := !(decide (addr < x.1.addr))) (v := .agg (wE.arr x.1)) fr rfl (by kernel_rfl) rfl rfl rfl (by simp) rfl (by first | decide | simp) (fun _ _ _ _ h => h) (fun hg _ ⟨B4, B172, B6, B7, B184, _⟩ => x_loadE (E := wE) ag60 rfl rfl (fr.ev rfl) (B184.rangeE (P := Try.prog) wE)) ⟨B4, B172, B6, B7, B184, trivial⟩ ?_
            clear fr a; intro a fr
            refine fx_takemay (i := 8) (g := !(decide (addr < x.1.addr))) (v := .agg (wE.arr (mkS addr wide 0))) fr rfl (by kernel_rfl) rfl rfl rfl (by simp) rfl (by first | decide | simp) (fun _ _ _ _ h => h) (fun hg _ ⟨B4, B172, B6, B7, B184, _⟩ => x_loadE (E := wE) ag60 rfl rfl (fr.ev rfl) (B172.rangeE (P := Try.prog) wE)) ⟨B4, B172, B6, B7, B184, trivial⟩ ?_
            clear fr a; intro a fr
            refine fx_one (i := 7) (by kernel_rfl) (fx_op rfl ?_)
            rcases Bool.eq_false_or_eq_true (decide (addr < x.1.addr)) with hc206 | hc206
            · skip
              rw [hc206] at fr
              have hc206 := of_decide_eq_true hc206
              refine fx_skip fr (fr.unwant rfl rfl rfl (by decide)) rfl (by first | decide | simp) ?_
              clear fr a; intro a fr
              refine wpList_nil ?_
              refine ⟨⟨B4, B172, B6, B7, B184, trivial⟩, ?_⟩
              refine fx_takeskip (i := 9) fr rfl (by kernel_rfl) (fr.unwant rfl rfl rfl (by decide)) rfl (by first | decide | simp) (fun _ _ _ h => h) ⟨B4, B172, B6, B7, B184, trivial⟩ ?_
              clear fr a; intro a fr
              refine fx_takeskip (i := 10) fr rfl (by kernel_rfl) (fr.unwant rfl rfl rfl (by decide)) rfl (by first | decide | simp) (fun _ _ _ h => h) ⟨B4, B172, B6, B7, B184, trivial⟩ ?_
              clear fr a; intro a fr
              refine fx_take (i := 11) (v := .bool true) fr rfl (by kernel_rfl) rfl rfl (by first | decide | simp) (fun _ _ _ h => h) (fun _ ⟨B4, B172, B6, B7, B184, _⟩ => x_pick_t rfl (fr.ev rfl) rfl) ⟨B4, B172, B6, B7, B184, trivial⟩ ?_
              clear fr a; intro a fr
              refine fx_take (i := 12) (v := .bool true) fr rfl (by kernel_rfl) rfl rfl (by first | decide | simp) (fun _ _ _ h => h) (fun _ ⟨B4, B172, B6, B7, B184, _⟩ => x_assign rfl (fr.ev rfl)) ⟨B4, B172, B6, B7, B184, trivial⟩ ?_
              clear fr a; intro a fr
              refine fx_hdone (by kernel_rfl) ?_
              refine fx_next ?_
              refine fxr_cond_t fr rfl ?_
              refine wpIn_seq ?_
              refine fxr_region (by kernel_rfl) (by rintro ⟨_, _, h⟩; exact h) ?_  -- region 8
              refine fx_store1 sz22 rfl rfl rfl (fr.ev rfl) rfl rfl B6 (show 0 < 1 by decide) (cs' := #[.int .u32 0]) rfl fun w207 hO208 hBq => ?_
              replace B4 := B4.only hO208 (by first | exact ne_b1_b6 | exact ne_b6_b1.symm | (show ¬ b1 = b6; omega))
              replace B172 := B172.only hO208 (by first | exact ne_b169_b6 | exact ne_b6_b169.symm | (show ¬ b169 = b6; omega))
              replace B7 := B7.only hO208 (by first | exact ne_b11_b6 | exact ne_b6_b11.symm | (show ¬ b11 = b6; omega))
              replace B184 := B184.only hO208 (by first | exact ne_b181_b6 | exact ne_b6_b181.symm | (show ¬ b181 = b6; omega))
              replace hF := hF.loc hO208 (.inl (Or.inl rfl))
              replace B6 := hBq
              clear hBq
              refine fx_store1 sz29 rfl rfl rfl (fr.ev rfl) rfl rfl B7 (show 0 < 1 by decide) (cs' := #[.int .i64 2]) rfl fun w209 hO210 hBq => ?_
              replace B4 := B4.only hO210 (by first | exact ne_b1_b11 | exact ne_b11_b1.symm | (show ¬ b1 = b11; omega))
              replace B172 := B172.only hO210 (by first | exact ne_b169_b11 | exact ne_b11_b169.symm | (show ¬ b169 = b11; omega))
              replace B184 := B184.only hO210 (by first | exact ne_b181_b11 | exact ne_b11_b181.symm | (show ¬ b181 = b11; omega))
              replace B6 := B6.only hO210 (by first | exact ne_b6_b11 | exact ne_b11_b6.symm | (show ¬ b6 = b11; omega))
              replace hF := hF.loc hO210 (.inl (Or.inr (rfl)))
              replace B7 := hBq
              clear hBq
              refine wpList_nil ?_
              refine fx_next ?_
              refine wpIn_ret ?_
              refine fx_rb ?_
              refine fx_rt ?_
              refine fx_rb ?_
              exact ⟨⟨_, hF, hcl⟩, ⟨rfl, 0, 2, B4, B172, B6, B7, hC.trans hF hSS, ⟨_, _, rfl, hno, (fwd1_part (by omega) (by omega))⟩⟩⟩
            · skip
              rw [hc206] at fr
              have hc206 := of_decide_eq_false hc206
              refine fx_call fr (fr.want rfl rfl rfl) rfl (by first | decide | simp) (x_call (vs := [.agg (wE.arr x.1)]) rfl rfl ⟨((fr.ev rfl).trans (onlyIf_t rfl)), trivial⟩ Try.func29 nm29 rfl) (until_c x.1 _ (by omega)) ?_
              clear fr a
              rintro v w211 ⟨rfl, hN212⟩ a fr
              replace B4 := B4.new hN212
              replace B172 := B172.new hN212
              replace B6 := B6.new hN212
              replace B7 := B7.new hN212
              replace B184 := B184.new hN212
              replace hF := hF.trNew hN212
              refine wpList_nil ?_
              refine ⟨⟨B4, B172, B6, B7, B184, trivial⟩, ?_⟩
              refine fx_one (i := 9) (by kernel_rfl) (fx_op rfl ?_)
              refine fx_call fr (fr.want rfl rfl rfl) rfl (by first | decide | simp) (x_call (vs := [.agg (wE.arr (mkS addr wide 0))]) rfl rfl ⟨((fr.ev rfl).trans (onlyIf_t rfl)), trivial⟩ Try.func29 nm29 rfl) (until_c (mkS addr wide 0) _ (by show 1 ≤ wide ∧ wide ≤ 4; omega)) ?_
              clear fr a
              rintro v w213 ⟨rfl, hN214⟩ a fr
              replace B4 := B4.new hN214
              replace B172 := B172.new hN214
              replace B6 := B6.new hN214
              replace B7 := B7.new hN214
              replace B184 := B184.new hN214
              replace hF := hF.trNew hN214
              refine wpList_nil ?_
              refine ⟨⟨B4, B172, B6, B7, B184, trivial⟩, ?_⟩
              refine fx_take (i := 10) (v := .bool (decide (x.1.addr + x.1.width < addr + wide))) fr rfl (by kernel_rfl) (fr.want rfl rfl rfl) rfl (by first | decide | simp) (fun _ _ _ h => h) (fun _ ⟨B4, B172, B6, B7, B184, _⟩ => x_lss rfl (fr.ev rfl) (fr.ev rfl) rfl) ⟨B4, B172, B6, B7, B184, trivial⟩ ?_
              clear fr a; intro a fr
              refine fx_take (i := 11) (v := .bool (decide (x.1.addr + x.1.width < addr + wide))) fr rfl (by kernel_rfl) rfl rfl (by first | decide | simp) (fun _ _ _ h => h) (fun _ ⟨B4, B172, B6, B7, B184, _⟩ => x_pick_f rfl (fr.ev rfl) (fr.ev rfl)) ⟨B4, B172, B6, B7, B184, trivial⟩ ?_
              clear fr a; intro a fr
              refine fx_take (i := 12) (v := .bool (decide (x.1.addr + x.1.width < addr + wide))) fr rfl (by kernel_rfl) rfl rfl (by first | decide | simp) (fun _ _ _ h => h) (fun _ ⟨B4, B172, B6, B7, B184, _⟩ => x_assign rfl (fr.ev rfl)) ⟨B4, B172, B6, B7, B184, trivial⟩ ?_
              clear fr a; intro a fr
              refine fx_hdone (by kernel_rfl) ?_
              refine fx_next ?_
              refine fxr_cond fr rfl (fun hc215 => ?_) (fun hc215 => ?_)
              · skip
                have hc215 := of_decide_eq_true hc215
                refine wpIn_seq ?_
                refine fxr_region (by kernel_rfl) (by rintro ⟨_, _, h⟩; exact h) ?_  -- region 8
                refine fx_store1 sz22 rfl rfl rfl (fr.ev rfl) rfl rfl B6 (show 0 < 1 by decide) (cs' := #[.int .u32 0]) rfl fun w216 hO217 hBq => ?_
                replace B4 := B4.only hO217 (by first | exact ne_b1_b6 | exact ne_b6_b1.symm | (show ¬ b1 = b6; omega))
                replace B172 := B172.only hO217 (by first | exact ne_b169_b6 | exact ne_b6_b169.symm | (show ¬ b169 = b6; omega))
                replace B7 := B7.only hO217 (by first | exact ne_b11_b6 | exact ne_b6_b11.symm | (show ¬ b11 = b6; omega))
                replace B184 := B184.only hO217 (by first | exact ne_b181_b6 | exact ne_b6_b181.symm | (show ¬ b181 = b6; omega))
                replace hF := hF.loc hO217 (.inl (Or.inl rfl))
                replace B6 := hBq
                clear hBq
                refine fx_store1 sz29 rfl rfl rfl (fr.ev rfl) rfl rfl B7 (show 0 < 1 by decide) (cs' := #[.int .i64 2]) rfl fun w218 hO219 hBq => ?_
                replace B4 := B4.only hO219 (by first | exact ne_b1_b11 | exact ne_b11_b1.symm | (show ¬ b1 = b11; omega))
                replace B172 := B172.only hO219 (by first | exact ne_b169_b11 | exact ne_b11_b169.symm | (show ¬ b169 = b11; omega))
                replace B184 := B184.only hO219 (by first | exact ne_b181_b11 | exact ne_b11_b181.symm | (show ¬ b181 = b11; omega))
                replace B6 := B6.only hO219 (by first | exact ne_b6_b11 | exact ne_b11_b6.symm | (show ¬ b6 = b11; omega))
                replace hF := hF.loc hO219 (.inl (Or.inr (rfl)))
                replace B7 := hBq
                clear hBq
                refine wpList_nil ?_
                refine fx_next ?_
                refine wpIn_ret ?_
                refine fx_rb ?_
                refine fx_rt ?_
                refine fx_rb ?_
                exact ⟨⟨_, hF, hcl⟩, ⟨rfl, 0, 2, B4, B172, B6, B7, hC.trans hF hSS, ⟨_, _, rfl, hno, (fwd1_part (by omega) (by omega))⟩⟩⟩
              · skip
                have hc215 := of_decide_eq_false hc215
                refine wpIn_skip ?_
                refine fx_blk ?_
                refine fx_next ?_
                refine wpIn_seq ?_
                refine fxr_heldT (n' := 10) (k := 10) (by kernel_rfl) (by rintro ⟨_, _, h⟩; exact h) (fun w => Blk w b1 3 (#[.int .i64 wide]) ∧ Blk w b169 60 (wE.arr (mkS addr wide 0)) ∧ Blk w b6 22 #[.int .u32 0] ∧ Blk w b11 29 #[.int .i64 0] ∧ Blk w b181 60 (wE.arr x.1) ∧ True) (by kernel_rfl) (by kernel_rfl) rfl ?_  -- region 9
                intro w220 hN221
                replace B4 := B4.new hN221
                replace B172 := B172.new hN221
                replace B6 := B6.new hN221
                replace B7 := B7.new hN221
                replace B184 := B184.new hN221
                replace hF := hF.trNew hN221
                refine fx_take (i := 0) (v := .pointer (some ⟨b181, 0, none⟩)) fr rfl (by kernel_rfl) rfl rfl (by first | decide | simp) (fun _ _ _ h => h) (fun _ ⟨B4, B172, B6, B7, B184, _⟩ => x_fieldAddr fo60_0 rfl (fr.ev rfl) rfl) ⟨B4, B172, B6, B7, B184, trivial⟩ ?_
                clear fr a; intro a fr
                refine fx_take (i := 1) (v := .pointer (some ⟨b181, 2, none⟩)) fr rfl (by kernel_rfl) rfl rfl (by first | decide | simp) (fun _ _ _ h => h) (fun _ ⟨B4, B172, B6, B7, B184, _⟩ => x_fieldAddr fo24_2 rfl (fr.ev rfl) rfl) ⟨B4, B172, B6, B7, B184, trivial⟩ ?_
                clear fr a; intro a fr
                refine fx_take (i := 2) (v := .int .u32 x.1.value) fr rfl (by kernel_rfl) rfl rfl (by first | decide | simp) (fun _ _ _ h => h) (fun _ ⟨B4, B172, B6, B7, B184, _⟩ => x_load1 pl22 rfl (fr.ev rfl) (B184.cell 2 rfl)) ⟨B4, B172, B6, B7, B184, trivial⟩ ?_
                clear fr a; intro a fr
                refine fx_take (i := 3) (v := .agg (wE.arr (mkS addr wide 0))) fr rfl (by kernel_rfl) rfl rfl (by first | decide | simp) (fun _ _ _ h => h) (fun _ ⟨B4, B172, B6, B7, B184, _⟩ => x_loadE (E := wE) ag60 rfl rfl (fr.ev rfl) (B172.rangeE (P := Try.prog) wE)) ⟨B4, B172, B6, B7, B184, trivial⟩ ?_
                clear fr a; intro a fr
                refine fx_take (i := 5) (v := .agg (wE.arr x.1)) fr rfl (by kernel_rfl) rfl rfl (by first | decide | simp) (fun _ _ _ h => h) (fun _ ⟨B4, B172, B6, B7, B184, _⟩ => x_loadE (E := wE) ag60 rfl rfl (fr.ev rfl) (B184.rangeE (P := Try.prog) wE)) ⟨B4, B172, B6, B7, B184, trivial⟩ ?_
                clear fr a; intro a fr
                refine fx_one (i := 4) (by kernel_rfl) (fx_op rfl ?_)
                refine fx_call fr rfl rfl (by first | decide | simp) (x_call (vs := [.agg (wE.arr (mkS addr wide 0))]) rfl rfl ⟨(fr.ev rfl), trivial⟩ Try.func30 nm30 rfl) (from_c (mkS addr wide 0) _) ?_
                clear fr a
                rintro v w222 ⟨rfl, hN223⟩ a fr
                replace B4 := B4.new hN223
                replace B172 := B172.new hN223
                replace B6 := B6.new hN223
                replace B7 := B7.new hN223
                replace B184 := B184.new hN223
                replace hF := hF.trNew hN223
                refine wpList_nil ?_
                refine ⟨⟨B4, B172, B6, B7, B184, trivial⟩, ?_⟩
                refine fx_one (i := 6) (by kernel_rfl) (fx_op rfl ?_)
                refine fx_call fr rfl rfl (by first | decide | simp) (x_call (vs := [.agg (wE.arr x.1)]) rfl rfl ⟨(fr.ev rfl), trivial⟩ Try.func30 nm30 rfl) (from_c x.1 _) ?_
                clear fr a
                rintro v w224 ⟨rfl, hN225⟩ a fr
                replace B4 := B4.new hN225
                replace B172 := B172.new hN225
                replace B6 := B6.new hN225
                replace B7 := B7.new hN225
                replace B184 := B184.new hN225
                replace hF := hF.trNew hN225
                refine wpList_nil ?_
                refine ⟨⟨B4, B172, B6, B7, B184, trivial⟩, ?_⟩
                refine fx_take (i := 7) (v := .int .u64 (addr - x.1.addr)) fr rfl (by kernel_rfl) rfl rfl (by first | decide | simp) (fun _ _ _ h => h) (fun _ ⟨B4, B172, B6, B7, B184, _⟩ => x_sub rfl (fr.ev rfl) (fr.ev rfl) (u64w (r := addr - x.1.addr) rfl (by omega))) ⟨B4, B172, B6, B7, B184, trivial⟩ ?_
                clear fr a; intro a fr
                refine fx_take (i := 8) (v := .int .u64 (8 * (addr - x.1.addr))) fr rfl (by kernel_rfl) rfl rfl (by first | decide | simp) (fun _ _ _ h => h) (fun _ ⟨B4, B172, B6, B7, B184, _⟩ => x_mul rfl rfl (fr.ev rfl) (u64w (r := 8 * (addr - x.1.addr)) rfl (by omega))) ⟨B4, B172, B6, B7, B184, trivial⟩ ?_
                clear fr a; intro a fr
                refine fx_take (i := 9) (v := .int .u32 (x.1.value.fdiv (2 ^ min (8 * (addr - x.1.addr)).toNat 32))) fr rfl (by kernel_rfl) rfl rfl (by first | decide | simp) (fun _ _ _ h => h) (fun _ ⟨B4, B172, B6, B7, B184, _⟩ => x_shr rfl (fr.ev rfl) (fr.ev rfl) (by omega) rfl) ⟨B4, B172, B6, B7, B184, trivial⟩ ?_
                clear fr a; intro a fr
                refine fx_hdone (by kernel_rfl) ?_
                refine fx_tail ?_
                refine fx_val (v := .int .u32 (x.1.value.fdiv (2 ^ min (8 * (addr - x.1.addr)).toNat 32))) fr rfl rfl (by first | decide | simp) (x_assign rfl (fr.ev rfl)) ?_
                clear fr a; intro a fr
                refine wpList_nil ?_
                refine fx_next ?_
                refine wpIn_seq ?_
                refine wpIn_seq ?_
                obtain ⟨nn, hnn⟩ : ∃ nn, x.1.value.fdiv (2 ^ min (8 * (addr - x.1.addr)).toNat 32) = nn := ⟨_, rfl⟩
                rw [hnn] at fr
                have hsh := shr_bd x.1.hv (min (8 * (addr - x.1.addr)).toNat 32)
                rw [hnn] at hsh
                refine fxr_region (by kernel_rfl) (by rintro ⟨_, _, h⟩; exact h) ?_  -- region 10
                refine fx_val (v := .int .i64 wide) fr rfl rfl (by first | decide | simp) (x_load1 pl3 rfl (fr.ev rfl) (B4.cell 0 rfl)) ?_
                clear fr a; intro a fr
                refine fx_val (v := .bool false) fr rfl rfl (by first | decide | simp) (x_lss rfl (fr.ev rfl) rfl (decide_eq_false (by omega))) ?_
                clear fr a; intro a fr
                refine wpList_nil ?_
                refine fx_next ?_
                refine fxr_cond_f fr rfl ?_
                refine wpIn_skip ?_
                refine fx_next ?_
                refine wpIn_seq ?_
                refine fxr_region (by kernel_rfl) (by rintro ⟨_, _, h⟩; exact h) ?_  -- region 12
                refine fx_val (v := .int .u32 nn) fr rfl rfl (by first | decide | simp) (x_move rfl (fr.ev rfl)) ?_
                clear fr a; intro a fr
                refine fx_store1 sz22 rfl rfl rfl (fr.ev rfl) (fr.ev rfl) rfl B6 (show 0 < 1 by decide) (cs' := #[.int .u32 nn]) rfl fun w226 hO227 hBq => ?_
                replace B4 := B4.only hO227 (by first | exact ne_b1_b6 | exact ne_b6_b1.symm | (show ¬ b1 = b6; omega))
                replace B172 := B172.only hO227 (by first | exact ne_b169_b6 | exact ne_b6_b169.symm | (show ¬ b169 = b6; omega))
                replace B7 := B7.only hO227 (by first | exact ne_b11_b6 | exact ne_b6_b11.symm | (show ¬ b11 = b6; omega))
                replace B184 := B184.only hO227 (by first | exact ne_b181_b6 | exact ne_b6_b181.symm | (show ¬ b181 = b6; omega))
                replace hF := hF.loc hO227 (.inl (Or.inl rfl))
                replace B6 := hBq
                clear hBq
                refine fx_store1 sz29 rfl rfl rfl (fr.ev rfl) rfl rfl B7 (show 0 < 1 by decide) (cs' := #[.int .i64 1]) rfl fun w228 hO229 hBq => ?_
                replace B4 := B4.only hO229 (by first | exact ne_b1_b11 | exact ne_b11_b1.symm | (show ¬ b1 = b11; omega))
                replace B172 := B172.only hO229 (by first | exact ne_b169_b11 | exact ne_b11_b169.symm | (show ¬ b169 = b11; omega))
                replace B184 := B184.only hO229 (by first | exact ne_b181_b11 | exact ne_b11_b181.symm | (show ¬ b181 = b11; omega))
                replace B6 := B6.only hO229 (by first | exact ne_b6_b11 | exact ne_b11_b6.symm | (show ¬ b6 = b11; omega))
                replace hF := hF.loc hO229 (.inl (Or.inr (rfl)))
                replace B7 := hBq
                clear hBq
                refine wpList_nil ?_
                refine fx_next ?_
                refine wpIn_ret ?_
                refine fx_rb ?_
                exact ⟨⟨_, hF, hcl⟩, ⟨rfl, nn, 1, B4, B172, B6, B7, hC.trans hF hSS, ⟨_, _, rfl, hno, (by rw [fwd1_all (by omega) (by omega), ← hnn, hq]; rfl)⟩⟩⟩
      · skip
        rintro D230 W1 hD ⟨B4, B172, B6, B7, hC, hno⟩ hD_D230 a fr
        have g_D230 := Nat.le_trans hF.size hD
        replace H := H.only hC (fun h => h.elim (by first | exact ne_b_b6 | exact ne_b6_b.symm | (show ¬ b = b6; omega)) (by first | exact ne_b_b11 | exact ne_b11_b.symm | (show ¬ b = b11; omega)))
        replace Bn177 := Bn177.only hC (fun h => h.elim (by first | exact ne_bn176_b6 | exact ne_b6_bn176.symm | (show ¬ bn176 = b6; omega)) (by first | exact ne_bn176_b11 | exact ne_b11_bn176.symm | (show ¬ bn176 = b11; omega)))
        replace hF := hF.locS hC (fun i => (fun h => h.elim (fun e => by subst e; exact (.inr g_b6)) (fun e => by subst e; exact (.inr g_b11))))
        have ne_b_D230 := H.mark hD_D230
        have ne_bn176_D230 := Bn177.mark hD_D230
        have ne_b1_D230 := B4.mark hD_D230
        have ne_b169_D230 := B172.mark hD_D230
        have ne_b6_D230 := B6.mark hD_D230
        have ne_b11_D230 := B7.mark hD_D230
        refine fx_blk ?_
        refine fx_next ?_
        refine wp_seq ?_
        refine wp_region_lit ?_  -- region 13
        refine fx_store1 sz22 rfl rfl rfl (fr.ev rfl) rfl rfl B6 (show 0 < 1 by decide) (cs' := #[.int .u32 0]) rfl fun w231 hO232 hBq => ?_
        replace H := H.only hO232 (by first | exact ne_b_b6 | exact ne_b6_b.symm | (show ¬ b = b6; omega))
        replace Bn177 := Bn177.only hO232 (by first | exact ne_bn176_b6 | exact ne_b6_bn176.symm | (show ¬ bn176 = b6; omega))
        replace B4 := B4.only hO232 (by first | exact ne_b1_b6 | exact ne_b6_b1.symm | (show ¬ b1 = b6; omega))
        replace B172 := B172.only hO232 (by first | exact ne_b169_b6 | exact ne_b6_b169.symm | (show ¬ b169 = b6; omega))
        replace B7 := B7.only hO232 (by first | exact ne_b11_b6 | exact ne_b6_b11.symm | (show ¬ b11 = b6; omega))
        replace hD_D230 := hD_D230.only hO232 (by first | exact ne_D230_b6 | exact ne_b6_D230.symm | (show ¬ D230 = b6; omega))
        replace hF := hF.loc hO232 (.inr g_b6)
        replace B6 := hBq
        clear hBq
        refine fx_store1 sz29 rfl rfl rfl (fr.ev rfl) rfl rfl B7 (show 0 < 1 by decide) (cs' := #[.int .i64 0]) rfl fun w233 hO234 hBq => ?_
        replace H := H.only hO234 (by first | exact ne_b_b11 | exact ne_b11_b.symm | (show ¬ b = b11; omega))
        replace Bn177 := Bn177.only hO234 (by first | exact ne_bn176_b11 | exact ne_b11_bn176.symm | (show ¬ bn176 = b11; omega))
        replace B4 := B4.only hO234 (by first | exact ne_b1_b11 | exact ne_b11_b1.symm | (show ¬ b1 = b11; omega))
        replace B172 := B172.only hO234 (by first | exact ne_b169_b11 | exact ne_b11_b169.symm | (show ¬ b169 = b11; omega))
        replace hD_D230 := hD_D230.only hO234 (by first | exact ne_D230_b11 | exact ne_b11_D230.symm | (show ¬ D230 = b11; omega))
        replace B6 := B6.only hO234 (by first | exact ne_b6_b11 | exact ne_b11_b6.symm | (show ¬ b6 = b11; omega))
        replace hF := hF.loc hO234 (.inr g_b11)
        replace B7 := hBq
        clear hBq
        refine wpList_nil ?_
        refine fx_next ?_
        refine wp_ret ?_
        refine fx_retM1 fr g_D230 hD_D230 [.cell 6 22, .cell 7 29] [.int .u32 0, .int .i64 0] rfl rfl ?_
        intro wE hT
        replace H := H.turn hT
        replace Bn177 := Bn177.turn hT
        replace B4 := B4.turn hT
        replace B172 := B172.turn hT
        replace B6 := B6.turn hT
        replace B7 := B7.turn hT
        replace hF := hF.turn hT (Nat.le_refl _)
        refine ⟨⟨⟨_, rfl, x_loadV1 pl22 (B6.cell 0 rfl)⟩, ⟨_, rfl, x_loadV1 pl29 (B7.cell 0 rfl)⟩, trivial⟩, ?_⟩
        have hf : fwd l addr wide = (0, 0) := by unfold fwd; rw [if_pos ⟨by rw [hq]; rfl, by rw [hq]; omega⟩]; exact fdone hno
        rw [hf]
        exact ⟨_, rfl, rfl, hF⟩
      · skip
        rintro D230 c pre W1 hD hpre (⟨rfl, n, k, B4, B172, B6, B7, hC, hst⟩) hD_D230 a fr
        have g_D230 := Nat.le_trans hF.size hD
        replace H := H.only hC (fun h => h.elim (by first | exact ne_b_b6 | exact ne_b6_b.symm | (show ¬ b = b6; omega)) (by first | exact ne_b_b11 | exact ne_b11_b.symm | (show ¬ b = b11; omega)))
        replace Bn177 := Bn177.only hC (fun h => h.elim (by first | exact ne_bn176_b6 | exact ne_b6_bn176.symm | (show ¬ bn176 = b6; omega)) (by first | exact ne_bn176_b11 | exact ne_b11_bn176.symm | (show ¬ bn176 = b11; omega)))
        replace hF := hF.locS hC (fun i => (fun h => h.elim (fun e => by subst e; exact (.inr g_b6)) (fun e => by subst e; exact (.inr g_b11))))
        have ne_b_D230 := H.mark hD_D230
        have ne_bn176_D230 := Bn177.mark hD_D230
        have ne_b1_D230 := B4.mark hD_D230
        have ne_b169_D230 := B172.mark hD_D230
        have ne_b6_D230 := B6.mark hD_D230
        have ne_b11_D230 := B7.mark hD_D230
        refine wp_ret ?_
        refine fx_rb ?_
        refine fx_rt ?_
        refine fx_retM1 fr g_D230 hD_D230 [.cell 6 22, .cell 7 29] [.int .u32 n, .int .i64 k] rfl rfl ?_
        intro wE hT
        replace H := H.turn hT
        replace Bn177 := Bn177.turn hT
        replace B4 := B4.turn hT
        replace B172 := B172.turn hT
        replace B6 := B6.turn hT
        replace B7 := B7.turn hT
        replace hF := hF.turn hT (Nat.le_refl _)
        refine ⟨⟨⟨_, rfl, x_loadV1 pl22 (B6.cell 0 rfl)⟩, ⟨_, rfl, x_loadV1 pl29 (B7.cell 0 rfl)⟩, trivial⟩, ?_⟩
        have hf : fwd l addr wide = (n, k) := by unfold fwd; rw [if_pos ⟨by rw [hq]; rfl, by rw [hq]; omega⟩]; exact hst.eq hpre
        rw [hf]
        exact ⟨_, rfl, rfl, hF⟩
  · skip
    refine wp_region_lit ?_  -- region 1
    refine fx_val (v := .int .i64 wide) fr rfl rfl (by first | decide | simp) (x_load1 pl3 rfl (fr.ev rfl) (B4.cell 0 rfl)) ?_
    clear fr a; intro a fr
    refine fx_call fr rfl rfl (by first | decide | simp) (x_call (vs := [.int .i64 wide]) rfl rfl ⟨(fr.ev rfl), trivial⟩ Try.func27 nm27 rfl) (width_c wide _) ?_
    clear fr a
    rintro v w9 ⟨rfl, hw9⟩ a fr
    obtain rfl := hw9.symm
    rw [hq] at fr
    refine fx_val (v := .bool true) fr rfl rfl (by first | decide | simp) (x_not rfl (fr.ev rfl) rfl) ?_
    clear fr a; intro a fr
    refine fx_val (v := .bool true) fr rfl rfl (by first | decide | simp) (x_move rfl (fr.ev rfl)) ?_
    clear fr a; intro a fr
    refine fx_skip fr (fr.unwant rfl rfl rfl (by decide)) rfl (by first | decide | simp) ?_
    clear fr a; intro a fr
    refine fx_skip fr (fr.unwant rfl rfl rfl (by decide)) rfl (by first | decide | simp) ?_
    clear fr a; intro a fr
    refine fx_skip fr (fr.unwant rfl rfl rfl (by decide)) rfl (by first | decide | simp) ?_
    clear fr a; intro a fr
    refine fx_skip fr (fr.unwant rfl rfl rfl (by decide)) rfl (by first | decide | simp) ?_
    clear fr a; intro a fr
    refine fx_skip fr (fr.unwant rfl rfl rfl (by decide)) rfl (by first | decide | simp) ?_
    clear fr a; intro a fr
    refine fx_val (v := .bool true) fr rfl rfl (by first | decide | simp) (x_pick_t rfl (fr.ev rfl) rfl) ?_
    clear fr a; intro a fr
    refine wpList_nil ?_
    refine fx_next ?_
    refine fx_cond_t fr rfl ?_
    refine wp_seq ?_
    refine wp_region_lit ?_  -- region 2
    refine fx_store1 sz22 rfl rfl rfl (fr.ev rfl) rfl rfl B9 (show 0 < 1 by decide) (cs' := #[.int .u32 0]) rfl fun w237 hO238 hBq => ?_
    replace H := H.only hO238 (by first | exact ne_b_b6 | exact ne_b6_b.symm | (show ¬ b = b6; omega))
    replace B4 := B4.only hO238 (by first | exact ne_b1_b6 | exact ne_b6_b1.symm | (show ¬ b1 = b6; omega))
    replace B14 := B14.only hO238 (by first | exact ne_b11_b6 | exact ne_b6_b11.symm | (show ¬ b11 = b6; omega))
    replace hF := hF.loc hO238 (.inr g_b6)
    replace B9 := hBq
    clear hBq
    refine fx_store1 sz29 rfl rfl rfl (fr.ev rfl) rfl rfl B14 (show 0 < 1 by decide) (cs' := #[.int .i64 0]) rfl fun w239 hO240 hBq => ?_
    replace H := H.only hO240 (by first | exact ne_b_b11 | exact ne_b11_b.symm | (show ¬ b = b11; omega))
    replace B4 := B4.only hO240 (by first | exact ne_b1_b11 | exact ne_b11_b1.symm | (show ¬ b1 = b11; omega))
    replace B9 := B9.only hO240 (by first | exact ne_b6_b11 | exact ne_b11_b6.symm | (show ¬ b6 = b11; omega))
    replace hF := hF.loc hO240 (.inr g_b11)
    replace B14 := hBq
    clear hBq
    refine wpList_nil ?_
    refine fx_next ?_
    refine wp_ret ?_
    refine fx_rt ?_
    refine fx_retM0 fr [.cell 6 22, .cell 7 29] [.int .u32 0, .int .i64 0] rfl ⟨⟨_, rfl, x_loadV1 pl22 (B9.cell 0 rfl)⟩, ⟨_, rfl, x_loadV1 pl29 (B14.cell 0 rfl)⟩, trivial⟩ rfl ?_
    have hf : fwd l addr wide = (0, 0) := by unfold fwd; rw [if_neg (fun h => by have := h.1; rw [hq] at this; cases this)]
    rw [hf]
    exact ⟨_, rfl, rfl, hF⟩
set_option maxRecDepth 100000 in
set_option maxHeartbeats 4000000 in
theorem forward_nil (w : World) (addr wide : Int) (ha : 0 ≤ addr ∧ addr < 4294967296) : Calls Try.prog 11 #[.pointer none, .int .u32 addr, .int .i64 wide] w (Ret fun v w' => v = .tuple #[.int .u32 (fwd [] addr wide).1, .int .i64 (fwd [] addr wide).2] ∧ New w w') := by
  have hF := Only.refl (fun _ => False) w
  refine fx_enterM Try.func11 rfl (N := (73, [])) (T := [(0, .pointer none), (1, .int .u32 addr), (2, .int .i64 wide)]) rfl (show 3 ≤ 73 by decide) ⟨rfl, rfl, rfl, trivial⟩ fun a fr => ?_
  refine wp_seq ?_
  refine wp_region_lit ?_  -- region 0
  refine fx_new fr rfl rfl (by first | decide | simp) (x_box (cs := #[.int .i64 wide]) rfl (fr.ev rfl) rfl) ?_
  clear fr a
  intro b1 w2 hN3 B4 hb5 a fr
  have g_b1 := Nat.le_trans hF.size hb5
  replace hF := hF.trNew hN3
  refine fx_new fr rfl rfl (by first | decide | simp) (x_alloc (z := .int .u32 0) (cs := #[.int .u32 0]) rfl (by kernel_rfl) rfl) ?_
  clear fr a
  intro b6 w7 hN8 B9 hb10 a fr
  have ne_b1_b6 : NE b1 b6 := NE.mk (Nat.lt_of_lt_of_le B4.lt hb10)
  have g_b6 := Nat.le_trans hF.size hb10
  replace B4 := B4.new hN8
  replace hF := hF.trNew hN8
  refine fx_new fr rfl rfl (by first | decide | simp) (x_alloc (z := .int .i64 0) (cs := #[.int .i64 0]) rfl (by kernel_rfl) rfl) ?_
  clear fr a
  intro b11 w12 hN13 B14 hb15 a fr
  have ne_b1_b11 : NE b1 b11 := NE.mk (Nat.lt_of_lt_of_le B4.lt hb15)
  have ne_b6_b11 : NE b6 b11 := NE.mk (Nat.lt_of_lt_of_le B9.lt hb15)
  have g_b11 := Nat.le_trans hF.size hb15
  replace B4 := B4.new hN13
  replace B9 := B9.new hN13
  replace hF := hF.trNew hN13
  refine wpList_nil ?_
  refine fx_next ?_
  refine wp_seq ?_
  refine wp_seq ?_
  rcases w_cases wide with hq | hq | hq | hq
  · skip
    refine wp_region_lit ?_  -- region 1
    refine fx_val (v := .int .i64 wide) fr rfl rfl (by first | decide | simp) (x_load1 pl3 rfl (fr.ev rfl) (B4.cell 0 rfl)) ?_
    clear fr a; intro a fr
    refine fx_call fr rfl rfl (by first | decide | simp) (x_call (vs := [.int .i64 wide]) rfl rfl ⟨(fr.ev rfl), trivial⟩ Try.func27 nm27 rfl) (width_c wide _) ?_
    clear fr a
    rintro v w9 ⟨rfl, hw9⟩ a fr
    obtain rfl := hw9.symm
    rw [show wOk wide = true from (by first | rfl | (rw [show wide = 1 by omega]; rfl))] at fr
    refine fx_val (v := .bool false) fr rfl rfl (by first | decide | simp) (x_not rfl (fr.ev rfl) rfl) ?_
    clear fr a; intro a fr
    refine fx_val (v := .bool false) fr rfl rfl (by first | decide | simp) (x_move rfl (fr.ev rfl)) ?_
    clear fr a; intro a fr
    refine fx_val (v := .int .u32 addr) fr (fr.want rfl rfl rfl) rfl (by first | decide | simp) (x_move rfl (fr.ev rfl)) ?_
    clear fr a; intro a fr
    refine fx_val (v := .int .i64 wide) fr (fr.want rfl rfl rfl) rfl (by first | decide | simp) (x_load1 pl3 rfl (fr.ev rfl) (B4.cell 0 rfl)) ?_
    clear fr a; intro a fr
    refine fx_val (v := .int .u32 1) fr (fr.want rfl rfl rfl) rfl (by first | decide | simp) (x_convert Try.underlying3 Try.underlying22 rfl (fr.ev rfl) (u32w (r := 1) (by omega) (by omega))) ?_
    clear fr a; intro a fr
    refine fx_val (v := .int .u32 (addr % 1)) fr (fr.want rfl rfl rfl) rfl (by first | decide | simp) (x_rem rfl (fr.ev rfl) (fr.ev rfl) (by omega) (r := addr % 1) (by first | exact rem_nn (by omega) | (rw [show 1 = 1 by omega]; exact rem_nn (by omega)))) ?_
    clear fr a; intro a fr
    refine fx_val (v := .bool (decide (addr % 1 ≠ 0))) fr (fr.want rfl rfl rfl) rfl (by first | decide | simp) (x_neq rfl (fr.ev rfl) rfl rfl) ?_
    clear fr a; intro a fr
    refine fx_val (v := .bool (decide (addr % 1 ≠ 0))) fr rfl rfl (by first | decide | simp) (x_pick_f rfl (fr.ev rfl) (fr.ev rfl)) ?_
    clear fr a; intro a fr
    refine wpList_nil ?_
    refine fx_next ?_
    refine fx_cond fr rfl (fun hc18 => ?_) (fun hc18 => ?_)
    · skip
      have hc18 := of_decide_eq_true hc18
      refine wp_seq ?_
      refine wp_region_lit ?_  -- region 2
      refine fx_store1 sz22 rfl rfl rfl (fr.ev rfl) rfl rfl B9 (show 0 < 1 by decide) (cs' := #[.int .u32 0]) rfl fun w19 hO20 hBq => ?_
      replace B4 := B4.only hO20 (by first | exact ne_b1_b6 | exact ne_b6_b1.symm | (show ¬ b1 = b6; omega))
      replace B14 := B14.only hO20 (by first | exact ne_b11_b6 | exact ne_b6_b11.symm | (show ¬ b11 = b6; omega))
      replace hF := hF.loc hO20 (.inr g_b6)
      replace B9 := hBq
      clear hBq
      refine fx_store1 sz29 rfl rfl rfl (fr.ev rfl) rfl rfl B14 (show 0 < 1 by decide) (cs' := #[.int .i64 0]) rfl fun w21 hO22 hBq => ?_
      replace B4 := B4.only hO22 (by first | exact ne_b1_b11 | exact ne_b11_b1.symm | (show ¬ b1 = b11; omega))
      replace B9 := B9.only hO22 (by first | exact ne_b6_b11 | exact ne_b11_b6.symm | (show ¬ b6 = b11; omega))
      replace hF := hF.loc hO22 (.inr g_b11)
      replace B14 := hBq
      clear hBq
      refine wpList_nil ?_
      refine fx_next ?_
      refine wp_ret ?_
      refine fx_rt ?_
      refine fx_retM0 fr [.cell 6 22, .cell 7 29] [.int .u32 0, .int .i64 0] rfl ⟨⟨_, rfl, x_loadV1 pl22 (B9.cell 0 rfl)⟩, ⟨_, rfl, x_loadV1 pl29 (B14.cell 0 rfl)⟩, trivial⟩ rfl ?_
      have hf : fwd [] addr wide = (0, 0) := by unfold fwd; rw [if_neg (fun h => by have := h.2; rw [hq] at this; omega)]
      rw [hf]
      exact ⟨_, rfl, rfl, hF⟩
    · skip
      have hc18 := of_decide_eq_false hc18
      refine wp_skip ?_
      refine fx_next ?_
      refine wp_seq ?_
      refine wp_region_lit ?_  -- region 3
      refine fx_val (v := .int .u32 addr) fr rfl rfl (by first | decide | simp) (x_move rfl (fr.ev rfl)) ?_
      clear fr a; intro a fr
      refine fx_val (v := .int .i64 wide) fr rfl rfl (by first | decide | simp) (x_load1 pl3 rfl (fr.ev rfl) (B4.cell 0 rfl)) ?_
      clear fr a; intro a fr
      refine fx_val (v := .agg (stE.arr (mkS addr wide 0))) fr rfl rfl (by first | decide | simp) (x_build (cells := stE.arr (mkS addr wide 0)) rfl (by simp only [List.map_toArray, List.map_cons, List.map_nil, show a.eval (.tmp 21) = .int .u32 addr from fr.ev rfl, show a.eval (.tmp 22) = .int .i64 wide from fr.ev rfl]; kernel_rfl)) ?_
      clear fr a; intro a fr
      refine fx_val (v := .agg (wE.arr (mkS addr wide 0))) fr rfl rfl (by first | decide | simp) (x_build (cells := wE.arr (mkS addr wide 0)) rfl (by simp only [List.map_toArray, List.map_cons, List.map_nil, show a.eval (.tmp 23) = .agg (stE.arr (mkS addr wide 0)) from fr.ev rfl]; kernel_rfl)) ?_
      clear fr a; intro a fr
      refine fx_new fr rfl rfl (by first | decide | simp) (x_alloc (z := .agg (#[.int .u32 0, .int .i64 0, .int .u32 0])) (cs := wE.arr st0) rfl (by kernel_rfl) rfl) ?_
      clear fr a
      intro b23 w24 hN25 B26 hb27 a fr
      have ne_b1_b23 : NE b1 b23 := NE.mk (Nat.lt_of_lt_of_le B4.lt hb27)
      have ne_b6_b23 : NE b6 b23 := NE.mk (Nat.lt_of_lt_of_le B9.lt hb27)
      have ne_b11_b23 : NE b11 b23 := NE.mk (Nat.lt_of_lt_of_le B14.lt hb27)
      have g_b23 := Nat.le_trans hF.size hb27
      replace B4 := B4.new hN25
      replace B9 := B9.new hN25
      replace B14 := B14.new hN25
      replace hF := hF.trNew hN25
      refine fx_storeS sz60 rfl rfl rfl (fr.ev rfl) (fr.ev rfl) (wE.all _) B26 (wE.size _) (wE.size _) fun w28 hO29 hBq => ?_
      replace B4 := B4.only hO29 (by first | exact ne_b1_b23 | exact ne_b23_b1.symm | (show ¬ b1 = b23; omega))
      replace B9 := B9.only hO29 (by first | exact ne_b6_b23 | exact ne_b23_b6.symm | (show ¬ b6 = b23; omega))
      replace B14 := B14.only hO29 (by first | exact ne_b11_b23 | exact ne_b23_b11.symm | (show ¬ b11 = b23; omega))
      replace hF := hF.loc hO29 (.inr g_b23)
      replace B26 := hBq
      clear hBq
      refine wpList_nil ?_
      refine fx_next ?_
      refine wp_seq ?_
      refine wp_seq ?_
      refine wp_region_lit ?_  -- region 4
      refine fx_val (v := .pointer none) fr rfl rfl (by first | decide | simp) (x_move rfl (fr.ev rfl)) ?_
      clear fr a; intro a fr
      refine fx_call fr rfl rfl (by first | decide | simp) (x_call (vs := [.pointer none]) rfl rfl ⟨(fr.ev rfl), trivial⟩ Try.func28 nm28 rfl) (back_nil _) ?_
      clear fr a
      rintro v w33 ⟨bn30, rfl, Bn31, hb32, hN34⟩ a fr
      have ne_b1_bn30 : NE b1 bn30 := NE.mk (Nat.lt_of_lt_of_le B4.lt hb32)
      have ne_b6_bn30 : NE b6 bn30 := NE.mk (Nat.lt_of_lt_of_le B9.lt hb32)
      have ne_b11_bn30 : NE b11 bn30 := NE.mk (Nat.lt_of_lt_of_le B14.lt hb32)
      have ne_b23_bn30 : NE b23 bn30 := NE.mk (Nat.lt_of_lt_of_le B26.lt hb32)
      have g_bn30 := Nat.le_trans hF.size hb32
      replace B4 := B4.new hN34
      replace B9 := B9.new hN34
      replace B14 := B14.new hN34
      replace B26 := B26.new hN34
      replace hF := hF.trNew hN34
      refine wpList_nil ?_
      refine fx_next ?_
      refine wp_block ?_
      have lt_b1 := B4.lt
      have lt_b23 := B26.lt
      have lt_b6 := B9.lt
      have lt_b11 := B14.lt
      refine fx_range (xs := ([] : List VSt)) (e := fun x : VSt => Value.agg (stE.arr x.1)) fr rfl (by decide) (enters_of Try.func37 nm37 rfl) (SI := fun k => k = b6 ∨ k = b11 ∨ w33.heap.size ≤ k) (fun _ h => Or.inr (Or.inr (h))) (all_stops_nil Bn31) (fun pre W => Blk W b1 3 (#[.int .i64 wide]) ∧ Blk W b23 60 (wE.arr (mkS addr wide 0)) ∧ Blk W b6 22 #[.int .u32 0] ∧ Blk W b11 29 #[.int .i64 0] ∧ Only (fun k => k = b6 ∨ k = b11) w33 W ∧ ∀ y ∈ pre, fwd1 addr wide y.1 = none) (fun c pre W => (c = .ret ∧ ∃ n : Int, ∃ k : Int, Blk W b1 3 (#[.int .i64 wide]) ∧ Blk W b23 60 (wE.arr (mkS addr wide 0)) ∧ Blk W b6 22 #[.int .u32 n] ∧ Blk W b11 29 #[.int .i64 k] ∧ Only (fun k => k = b6 ∨ k = b11) w33 W ∧ FStop addr wide pre (n, k))) (fun x a' W => ∃ b35 : Nat, Blk W b35 60 (wE.arr x.1) ∧ w33.heap.size ≤ b35 ∧ Fr (73, []) [(0, .pointer none), (1, .int .u32 addr), (2, .int .i64 wide), (5, .pointer (some ⟨b1, 0, none⟩)), (6, .pointer (some ⟨b6, 0, none⟩)), (7, .pointer (some ⟨b11, 0, none⟩)), (11, .int .i64 wide), (12, .bool true), (13, .bool false), (14, .bool false), (15, .int .u32 addr), (16, .int .i64 wide), (17, .int .u32 1), (18, .int .u32 (addr % 1)), (19, .bool (decide (addr % 1 ≠ 0))), (20, .bool (decide (addr % 1 ≠ 0))), (21, .int .u32 addr), (22, .int .i64 wide), (23, .agg (stE.arr (mkS addr wide 0))), (24, .agg (wE.arr (mkS addr wide 0))), (8, .pointer (some ⟨b23, 0, none⟩)), (25, .pointer none), (26, .func (.func 37) #[] #[.pointer (some ⟨bn30, 0, none⟩)]), (27, .agg (wE.arr x.1)), (9, .pointer (some ⟨b35, 0, none⟩))] a') ?_ ?_ ?_ ?_ ⟨B4, B26, B9, B14, Only.refl _ _, (fun y hy => by simp at hy)⟩ ?_ ?_ ?_ ?_
      · rintro pre W W' ⟨B4, B26, B6, B7, hC, hno⟩ hT; exact ⟨B4.turn hT, B26.turn hT, B6.turn hT, B7.turn hT, hC.turn hT (Nat.le_refl _), hno⟩
      · rintro c pre W W' (⟨rfl, n, k, B4, B26, B6, B7, hC, hst⟩) hT
        exact ⟨rfl, n, k, B4.turn hT, B26.turn hT, B6.turn hT, B7.turn hT, hC.turn hT (Nat.le_refl _), hst⟩
      · rintro x a' _ W W' ⟨b35, B38, h_b35, hf⟩ hT; exact ⟨b35, B38.turn hT, h_b35, hf⟩
      · rintro pre W W' ⟨B4, B26, B6, B7, hC, hno⟩ hN; exact ⟨B4.new hN, B26.new hN, B6.new hN, B7.new hN, hC.trNew hN, hno⟩
      · skip
        rintro l pre x W K ⟨B4, B26, B6, B7, hC, hno⟩ hK a fr
        have hF := Only.refl (fun _ => False) W
        refine fxr_region (by kernel_rfl) (by rintro ⟨_, _, h⟩; exact h) ?_  -- region 5
        refine fx_new fr rfl rfl (by first | decide | simp) (x_alloc (z := .agg (#[.int .u32 0, .int .i64 0, .int .u32 0])) (cs := wE.arr st0) rfl (by kernel_rfl) rfl) ?_
        clear fr a
        intro b35 w36 hN37 B38 hb39 a fr
        have g_b35 := Nat.le_trans hF.size hb39
        replace hF := hF.trNew hN37
        refine fx_storeS sz60 rfl rfl rfl (fr.ev rfl) (fr.ev rfl) (wE.all _) B38 (wE.size _) (wE.size _) fun w40 hO41 hBq => ?_
        replace hF := hF.loc hO41 (.inr g_b35)
        replace B38 := hBq
        clear hBq
        refine wpList_nil ?_
        refine hK _ _ hF ⟨b35, B38, Nat.le_trans hC.size g_b35, fr.sub ⟨rfl, rfl, rfl, rfl, rfl, rfl, rfl, rfl, rfl, rfl, rfl, rfl, rfl, rfl, rfl, rfl, rfl, rfl, rfl, rfl, rfl, rfl, rfl, rfl, rfl, trivial⟩⟩
      · skip
        rintro lq pre x a W ⟨B4, B26, B6, B7, hC, hno⟩ ⟨b35, B38, h_b35, fr⟩ hlen
        have ne_b1_b35 : NE b1 b35 := NE.mk (Nat.lt_of_lt_of_le lt_b1 h_b35)
        have ne_b23_b35 : NE b23 b35 := NE.mk (Nat.lt_of_lt_of_le lt_b23 h_b35)
        have ne_b6_b35 : NE b6 b35 := NE.mk (Nat.lt_of_lt_of_le lt_b6 h_b35)
        have ne_b11_b35 : NE b11 b35 := NE.mk (Nat.lt_of_lt_of_le lt_b11 h_b35)
        have cl_b6 := B6.cells
        have cl_b11 := B7.cells
        have hF := Only.refl (fun k => k = b6 ∨ k = b11) W
        have hcl : ∀ k, k < W.heap.size → (fun k => k = b6 ∨ k = b11) k → (fun k => k = b6 ∨ k = b11 ∨ w33.heap.size ≤ k) k ∧ ∃ o : Obj, W.heap[k]? = some o ∧ o.isCells = true := by
          rintro k _ (rfl | rfl)
          · exact ⟨Or.inl rfl, cl_b6⟩
          · exact ⟨Or.inr (Or.inl rfl), cl_b11⟩
        have hSS : ∀ k, k < w33.heap.size → (fun k => k = b6 ∨ k = b11) k → (fun k => k = b6 ∨ k = b11) k := by
          rintro k hk (rfl | rfl)
          · exact Or.inl rfl
          · exact Or.inr (rfl)
        obtain ⟨hxs, hxm⟩ := x.spec
        have hxa := x.1.ha
        have hxv := x.1.hv
        exact absurd hlen (by simp)
      · skip
        rintro D42 W1 hD ⟨B4, B26, B6, B7, hC, hno⟩ hD_D42 a fr
        have g_D42 := Nat.le_trans hF.size hD
        replace Bn31 := Bn31.only hC (fun h => h.elim (by first | exact ne_bn30_b6 | exact ne_b6_bn30.symm | (show ¬ bn30 = b6; omega)) (by first | exact ne_bn30_b11 | exact ne_b11_bn30.symm | (show ¬ bn30 = b11; omega)))
        replace hF := hF.locS hC (fun i => (fun h => h.elim (fun e => by subst e; exact (.inr g_b6)) (fun e => by subst e; exact (.inr g_b11))))
        have ne_bn30_D42 := Bn31.mark hD_D42
        have ne_b1_D42 := B4.mark hD_D42
        have ne_b23_D42 := B26.mark hD_D42
        have ne_b6_D42 := B6.mark hD_D42
        have ne_b11_D42 := B7.mark hD_D42
        refine fx_blk ?_
        refine fx_next ?_
        refine wp_seq ?_
        refine wp_region_lit ?_  -- region 13
        refine fx_store1 sz22 rfl rfl rfl (fr.ev rfl) rfl rfl B6 (show 0 < 1 by decide) (cs' := #[.int .u32 0]) rfl fun w43 hO44 hBq => ?_
        replace Bn31 := Bn31.only hO44 (by first | exact ne_bn30_b6 | exact ne_b6_bn30.symm | (show ¬ bn30 = b6; omega))
        replace B4 := B4.only hO44 (by first | exact ne_b1_b6 | exact ne_b6_b1.symm | (show ¬ b1 = b6; omega))
        replace B26 := B26.only hO44 (by first | exact ne_b23_b6 | exact ne_b6_b23.symm | (show ¬ b23 = b6; omega))
        replace B7 := B7.only hO44 (by first | exact ne_b11_b6 | exact ne_b6_b11.symm | (show ¬ b11 = b6; omega))
        replace hD_D42 := hD_D42.only hO44 (by first | exact ne_D42_b6 | exact ne_b6_D42.symm | (show ¬ D42 = b6; omega))
        replace hF := hF.loc hO44 (.inr g_b6)
        replace B6 := hBq
        clear hBq
        refine fx_store1 sz29 rfl rfl rfl (fr.ev rfl) rfl rfl B7 (show 0 < 1 by decide) (cs' := #[.int .i64 0]) rfl fun w45 hO46 hBq => ?_
        replace Bn31 := Bn31.only hO46 (by first | exact ne_bn30_b11 | exact ne_b11_bn30.symm | (show ¬ bn30 = b11; omega))
        replace B4 := B4.only hO46 (by first | exact ne_b1_b11 | exact ne_b11_b1.symm | (show ¬ b1 = b11; omega))
        replace B26 := B26.only hO46 (by first | exact ne_b23_b11 | exact ne_b11_b23.symm | (show ¬ b23 = b11; omega))
        replace hD_D42 := hD_D42.only hO46 (by first | exact ne_D42_b11 | exact ne_b11_D42.symm | (show ¬ D42 = b11; omega))
        replace B6 := B6.only hO46 (by first | exact ne_b6_b11 | exact ne_b11_b6.symm | (show ¬ b6 = b11; omega))
        replace hF := hF.loc hO46 (.inr g_b11)
        replace B7 := hBq
        clear hBq
        refine wpList_nil ?_
        refine fx_next ?_
        refine wp_ret ?_
        refine fx_retM1 fr g_D42 hD_D42 [.cell 6 22, .cell 7 29] [.int .u32 0, .int .i64 0] rfl rfl ?_
        intro wE hT
        replace Bn31 := Bn31.turn hT
        replace B4 := B4.turn hT
        replace B26 := B26.turn hT
        replace B6 := B6.turn hT
        replace B7 := B7.turn hT
        replace hF := hF.turn hT (Nat.le_refl _)
        refine ⟨⟨⟨_, rfl, x_loadV1 pl22 (B6.cell 0 rfl)⟩, ⟨_, rfl, x_loadV1 pl29 (B7.cell 0 rfl)⟩, trivial⟩, ?_⟩
        have hf : fwd [] addr wide = (0, 0) := by unfold fwd; rw [if_pos ⟨by rw [hq]; rfl, by rw [hq]; omega⟩]; exact fdone hno
        rw [hf]
        exact ⟨_, rfl, rfl, hF⟩
      · skip
        rintro D42 c pre W1 hD hpre (⟨rfl, n, k, B4, B26, B6, B7, hC, hst⟩) hD_D42 a fr
        have g_D42 := Nat.le_trans hF.size hD
        replace Bn31 := Bn31.only hC (fun h => h.elim (by first | exact ne_bn30_b6 | exact ne_b6_bn30.symm | (show ¬ bn30 = b6; omega)) (by first | exact ne_bn30_b11 | exact ne_b11_bn30.symm | (show ¬ bn30 = b11; omega)))
        replace hF := hF.locS hC (fun i => (fun h => h.elim (fun e => by subst e; exact (.inr g_b6)) (fun e => by subst e; exact (.inr g_b11))))
        have ne_bn30_D42 := Bn31.mark hD_D42
        have ne_b1_D42 := B4.mark hD_D42
        have ne_b23_D42 := B26.mark hD_D42
        have ne_b6_D42 := B6.mark hD_D42
        have ne_b11_D42 := B7.mark hD_D42
        refine wp_ret ?_
        refine fx_rb ?_
        refine fx_rt ?_
        refine fx_retM1 fr g_D42 hD_D42 [.cell 6 22, .cell 7 29] [.int .u32 n, .int .i64 k] rfl rfl ?_
        intro wE hT
        replace Bn31 := Bn31.turn hT
        replace B4 := B4.turn hT
        replace B26 := B26.turn hT
        replace B6 := B6.turn hT
        replace B7 := B7.turn hT
        replace hF := hF.turn hT (Nat.le_refl _)
        refine ⟨⟨⟨_, rfl, x_loadV1 pl22 (B6.cell 0 rfl)⟩, ⟨_, rfl, x_loadV1 pl29 (B7.cell 0 rfl)⟩, trivial⟩, ?_⟩
        have hf : fwd [] addr wide = (n, k) := by unfold fwd; rw [if_pos ⟨by rw [hq]; rfl, by rw [hq]; omega⟩]; exact hst.eq hpre
        rw [hf]
        exact ⟨_, rfl, rfl, hF⟩
  · skip
    refine wp_region_lit ?_  -- region 1
    refine fx_val (v := .int .i64 wide) fr rfl rfl (by first | decide | simp) (x_load1 pl3 rfl (fr.ev rfl) (B4.cell 0 rfl)) ?_
    clear fr a; intro a fr
    refine fx_call fr rfl rfl (by first | decide | simp) (x_call (vs := [.int .i64 wide]) rfl rfl ⟨(fr.ev rfl), trivial⟩ Try.func27 nm27 rfl) (width_c wide _) ?_
    clear fr a
    rintro v w9 ⟨rfl, hw9⟩ a fr
    obtain rfl := hw9.symm
    rw [show wOk wide = true from (by first | rfl | (rw [show wide = 2 by omega]; rfl))] at fr
    refine fx_val (v := .bool false) fr rfl rfl (by first | decide | simp) (x_not rfl (fr.ev rfl) rfl) ?_
    clear fr a; intro a fr
    refine fx_val (v := .bool false) fr rfl rfl (by first | decide | simp) (x_move rfl (fr.ev rfl)) ?_
    clear fr a; intro a fr
    refine fx_val (v := .int .u32 addr) fr (fr.want rfl rfl rfl) rfl (by first | decide | simp) (x_move rfl (fr.ev rfl)) ?_
    clear fr a; intro a fr
    refine fx_val (v := .int .i64 wide) fr (fr.want rfl rfl rfl) rfl (by first | decide | simp) (x_load1 pl3 rfl (fr.ev rfl) (B4.cell 0 rfl)) ?_
    clear fr a; intro a fr
    refine fx_val (v := .int .u32 2) fr (fr.want rfl rfl rfl) rfl (by first | decide | simp) (x_convert Try.underlying3 Try.underlying22 rfl (fr.ev rfl) (u32w (r := 2) (by omega) (by omega))) ?_
    clear fr a; intro a fr
    refine fx_val (v := .int .u32 (addr % 2)) fr (fr.want rfl rfl rfl) rfl (by first | decide | simp) (x_rem rfl (fr.ev rfl) (fr.ev rfl) (by omega) (r := addr % 2) (by first | exact rem_nn (by omega) | (rw [show 2 = 2 by omega]; exact rem_nn (by omega)))) ?_
    clear fr a; intro a fr
    refine fx_val (v := .bool (decide (addr % 2 ≠ 0))) fr (fr.want rfl rfl rfl) rfl (by first | decide | simp) (x_neq rfl (fr.ev rfl) rfl rfl) ?_
    clear fr a; intro a fr
    refine fx_val (v := .bool (decide (addr % 2 ≠ 0))) fr rfl rfl (by first | decide | simp) (x_pick_f rfl (fr.ev rfl) (fr.ev rfl)) ?_
    clear fr a; intro a fr
    refine wpList_nil ?_
    refine fx_next ?_
    refine fx_cond fr rfl (fun hc49 => ?_) (fun hc49 => ?_)
    · skip
      have hc49 := of_decide_eq_true hc49
      refine wp_seq ?_
      refine wp_region_lit ?_  -- region 2
      refine fx_store1 sz22 rfl rfl rfl (fr.ev rfl) rfl rfl B9 (show 0 < 1 by decide) (cs' := #[.int .u32 0]) rfl fun w50 hO51 hBq => ?_
      replace B4 := B4.only hO51 (by first | exact ne_b1_b6 | exact ne_b6_b1.symm | (show ¬ b1 = b6; omega))
      replace B14 := B14.only hO51 (by first | exact ne_b11_b6 | exact ne_b6_b11.symm | (show ¬ b11 = b6; omega))
      replace hF := hF.loc hO51 (.inr g_b6)
      replace B9 := hBq
      clear hBq
      refine fx_store1 sz29 rfl rfl rfl (fr.ev rfl) rfl rfl B14 (show 0 < 1 by decide) (cs' := #[.int .i64 0]) rfl fun w52 hO53 hBq => ?_
      replace B4 := B4.only hO53 (by first | exact ne_b1_b11 | exact ne_b11_b1.symm | (show ¬ b1 = b11; omega))
      replace B9 := B9.only hO53 (by first | exact ne_b6_b11 | exact ne_b11_b6.symm | (show ¬ b6 = b11; omega))
      replace hF := hF.loc hO53 (.inr g_b11)
      replace B14 := hBq
      clear hBq
      refine wpList_nil ?_
      refine fx_next ?_
      refine wp_ret ?_
      refine fx_rt ?_
      refine fx_retM0 fr [.cell 6 22, .cell 7 29] [.int .u32 0, .int .i64 0] rfl ⟨⟨_, rfl, x_loadV1 pl22 (B9.cell 0 rfl)⟩, ⟨_, rfl, x_loadV1 pl29 (B14.cell 0 rfl)⟩, trivial⟩ rfl ?_
      have hf : fwd [] addr wide = (0, 0) := by unfold fwd; rw [if_neg (fun h => by have := h.2; rw [hq] at this; omega)]
      rw [hf]
      exact ⟨_, rfl, rfl, hF⟩
    · skip
      have hc49 := of_decide_eq_false hc49
      refine wp_skip ?_
      refine fx_next ?_
      refine wp_seq ?_
      refine wp_region_lit ?_  -- region 3
      refine fx_val (v := .int .u32 addr) fr rfl rfl (by first | decide | simp) (x_move rfl (fr.ev rfl)) ?_
      clear fr a; intro a fr
      refine fx_val (v := .int .i64 wide) fr rfl rfl (by first | decide | simp) (x_load1 pl3 rfl (fr.ev rfl) (B4.cell 0 rfl)) ?_
      clear fr a; intro a fr
      refine fx_val (v := .agg (stE.arr (mkS addr wide 0))) fr rfl rfl (by first | decide | simp) (x_build (cells := stE.arr (mkS addr wide 0)) rfl (by simp only [List.map_toArray, List.map_cons, List.map_nil, show a.eval (.tmp 21) = .int .u32 addr from fr.ev rfl, show a.eval (.tmp 22) = .int .i64 wide from fr.ev rfl]; kernel_rfl)) ?_
      clear fr a; intro a fr
      refine fx_val (v := .agg (wE.arr (mkS addr wide 0))) fr rfl rfl (by first | decide | simp) (x_build (cells := wE.arr (mkS addr wide 0)) rfl (by simp only [List.map_toArray, List.map_cons, List.map_nil, show a.eval (.tmp 23) = .agg (stE.arr (mkS addr wide 0)) from fr.ev rfl]; kernel_rfl)) ?_
      clear fr a; intro a fr
      refine fx_new fr rfl rfl (by first | decide | simp) (x_alloc (z := .agg (#[.int .u32 0, .int .i64 0, .int .u32 0])) (cs := wE.arr st0) rfl (by kernel_rfl) rfl) ?_
      clear fr a
      intro b54 w55 hN56 B57 hb58 a fr
      have ne_b1_b54 : NE b1 b54 := NE.mk (Nat.lt_of_lt_of_le B4.lt hb58)
      have ne_b6_b54 : NE b6 b54 := NE.mk (Nat.lt_of_lt_of_le B9.lt hb58)
      have ne_b11_b54 : NE b11 b54 := NE.mk (Nat.lt_of_lt_of_le B14.lt hb58)
      have g_b54 := Nat.le_trans hF.size hb58
      replace B4 := B4.new hN56
      replace B9 := B9.new hN56
      replace B14 := B14.new hN56
      replace hF := hF.trNew hN56
      refine fx_storeS sz60 rfl rfl rfl (fr.ev rfl) (fr.ev rfl) (wE.all _) B57 (wE.size _) (wE.size _) fun w59 hO60 hBq => ?_
      replace B4 := B4.only hO60 (by first | exact ne_b1_b54 | exact ne_b54_b1.symm | (show ¬ b1 = b54; omega))
      replace B9 := B9.only hO60 (by first | exact ne_b6_b54 | exact ne_b54_b6.symm | (show ¬ b6 = b54; omega))
      replace B14 := B14.only hO60 (by first | exact ne_b11_b54 | exact ne_b54_b11.symm | (show ¬ b11 = b54; omega))
      replace hF := hF.loc hO60 (.inr g_b54)
      replace B57 := hBq
      clear hBq
      refine wpList_nil ?_
      refine fx_next ?_
      refine wp_seq ?_
      refine wp_seq ?_
      refine wp_region_lit ?_  -- region 4
      refine fx_val (v := .pointer none) fr rfl rfl (by first | decide | simp) (x_move rfl (fr.ev rfl)) ?_
      clear fr a; intro a fr
      refine fx_call fr rfl rfl (by first | decide | simp) (x_call (vs := [.pointer none]) rfl rfl ⟨(fr.ev rfl), trivial⟩ Try.func28 nm28 rfl) (back_nil _) ?_
      clear fr a
      rintro v w64 ⟨bn61, rfl, Bn62, hb63, hN65⟩ a fr
      have ne_b1_bn61 : NE b1 bn61 := NE.mk (Nat.lt_of_lt_of_le B4.lt hb63)
      have ne_b6_bn61 : NE b6 bn61 := NE.mk (Nat.lt_of_lt_of_le B9.lt hb63)
      have ne_b11_bn61 : NE b11 bn61 := NE.mk (Nat.lt_of_lt_of_le B14.lt hb63)
      have ne_b54_bn61 : NE b54 bn61 := NE.mk (Nat.lt_of_lt_of_le B57.lt hb63)
      have g_bn61 := Nat.le_trans hF.size hb63
      replace B4 := B4.new hN65
      replace B9 := B9.new hN65
      replace B14 := B14.new hN65
      replace B57 := B57.new hN65
      replace hF := hF.trNew hN65
      refine wpList_nil ?_
      refine fx_next ?_
      refine wp_block ?_
      have lt_b1 := B4.lt
      have lt_b54 := B57.lt
      have lt_b6 := B9.lt
      have lt_b11 := B14.lt
      refine fx_range (xs := ([] : List VSt)) (e := fun x : VSt => Value.agg (stE.arr x.1)) fr rfl (by decide) (enters_of Try.func37 nm37 rfl) (SI := fun k => k = b6 ∨ k = b11 ∨ w64.heap.size ≤ k) (fun _ h => Or.inr (Or.inr (h))) (all_stops_nil Bn62) (fun pre W => Blk W b1 3 (#[.int .i64 wide]) ∧ Blk W b54 60 (wE.arr (mkS addr wide 0)) ∧ Blk W b6 22 #[.int .u32 0] ∧ Blk W b11 29 #[.int .i64 0] ∧ Only (fun k => k = b6 ∨ k = b11) w64 W ∧ ∀ y ∈ pre, fwd1 addr wide y.1 = none) (fun c pre W => (c = .ret ∧ ∃ n : Int, ∃ k : Int, Blk W b1 3 (#[.int .i64 wide]) ∧ Blk W b54 60 (wE.arr (mkS addr wide 0)) ∧ Blk W b6 22 #[.int .u32 n] ∧ Blk W b11 29 #[.int .i64 k] ∧ Only (fun k => k = b6 ∨ k = b11) w64 W ∧ FStop addr wide pre (n, k))) (fun x a' W => ∃ b66 : Nat, Blk W b66 60 (wE.arr x.1) ∧ w64.heap.size ≤ b66 ∧ Fr (73, []) [(0, .pointer none), (1, .int .u32 addr), (2, .int .i64 wide), (5, .pointer (some ⟨b1, 0, none⟩)), (6, .pointer (some ⟨b6, 0, none⟩)), (7, .pointer (some ⟨b11, 0, none⟩)), (11, .int .i64 wide), (12, .bool true), (13, .bool false), (14, .bool false), (15, .int .u32 addr), (16, .int .i64 wide), (17, .int .u32 2), (18, .int .u32 (addr % 2)), (19, .bool (decide (addr % 2 ≠ 0))), (20, .bool (decide (addr % 2 ≠ 0))), (21, .int .u32 addr), (22, .int .i64 wide), (23, .agg (stE.arr (mkS addr wide 0))), (24, .agg (wE.arr (mkS addr wide 0))), (8, .pointer (some ⟨b54, 0, none⟩)), (25, .pointer none), (26, .func (.func 37) #[] #[.pointer (some ⟨bn61, 0, none⟩)]), (27, .agg (wE.arr x.1)), (9, .pointer (some ⟨b66, 0, none⟩))] a') ?_ ?_ ?_ ?_ ⟨B4, B57, B9, B14, Only.refl _ _, (fun y hy => by simp at hy)⟩ ?_ ?_ ?_ ?_
      · rintro pre W W' ⟨B4, B57, B6, B7, hC, hno⟩ hT; exact ⟨B4.turn hT, B57.turn hT, B6.turn hT, B7.turn hT, hC.turn hT (Nat.le_refl _), hno⟩
      · rintro c pre W W' (⟨rfl, n, k, B4, B57, B6, B7, hC, hst⟩) hT
        exact ⟨rfl, n, k, B4.turn hT, B57.turn hT, B6.turn hT, B7.turn hT, hC.turn hT (Nat.le_refl _), hst⟩
      · rintro x a' _ W W' ⟨b66, B69, h_b66, hf⟩ hT; exact ⟨b66, B69.turn hT, h_b66, hf⟩
      · rintro pre W W' ⟨B4, B57, B6, B7, hC, hno⟩ hN; exact ⟨B4.new hN, B57.new hN, B6.new hN, B7.new hN, hC.trNew hN, hno⟩
      · skip
        rintro l pre x W K ⟨B4, B57, B6, B7, hC, hno⟩ hK a fr
        have hF := Only.refl (fun _ => False) W
        refine fxr_region (by kernel_rfl) (by rintro ⟨_, _, h⟩; exact h) ?_  -- region 5
        refine fx_new fr rfl rfl (by first | decide | simp) (x_alloc (z := .agg (#[.int .u32 0, .int .i64 0, .int .u32 0])) (cs := wE.arr st0) rfl (by kernel_rfl) rfl) ?_
        clear fr a
        intro b66 w67 hN68 B69 hb70 a fr
        have g_b66 := Nat.le_trans hF.size hb70
        replace hF := hF.trNew hN68
        refine fx_storeS sz60 rfl rfl rfl (fr.ev rfl) (fr.ev rfl) (wE.all _) B69 (wE.size _) (wE.size _) fun w71 hO72 hBq => ?_
        replace hF := hF.loc hO72 (.inr g_b66)
        replace B69 := hBq
        clear hBq
        refine wpList_nil ?_
        refine hK _ _ hF ⟨b66, B69, Nat.le_trans hC.size g_b66, fr.sub ⟨rfl, rfl, rfl, rfl, rfl, rfl, rfl, rfl, rfl, rfl, rfl, rfl, rfl, rfl, rfl, rfl, rfl, rfl, rfl, rfl, rfl, rfl, rfl, rfl, rfl, trivial⟩⟩
      · skip
        rintro lq pre x a W ⟨B4, B57, B6, B7, hC, hno⟩ ⟨b66, B69, h_b66, fr⟩ hlen
        have ne_b1_b66 : NE b1 b66 := NE.mk (Nat.lt_of_lt_of_le lt_b1 h_b66)
        have ne_b54_b66 : NE b54 b66 := NE.mk (Nat.lt_of_lt_of_le lt_b54 h_b66)
        have ne_b6_b66 : NE b6 b66 := NE.mk (Nat.lt_of_lt_of_le lt_b6 h_b66)
        have ne_b11_b66 : NE b11 b66 := NE.mk (Nat.lt_of_lt_of_le lt_b11 h_b66)
        have cl_b6 := B6.cells
        have cl_b11 := B7.cells
        have hF := Only.refl (fun k => k = b6 ∨ k = b11) W
        have hcl : ∀ k, k < W.heap.size → (fun k => k = b6 ∨ k = b11) k → (fun k => k = b6 ∨ k = b11 ∨ w64.heap.size ≤ k) k ∧ ∃ o : Obj, W.heap[k]? = some o ∧ o.isCells = true := by
          rintro k _ (rfl | rfl)
          · exact ⟨Or.inl rfl, cl_b6⟩
          · exact ⟨Or.inr (Or.inl rfl), cl_b11⟩
        have hSS : ∀ k, k < w64.heap.size → (fun k => k = b6 ∨ k = b11) k → (fun k => k = b6 ∨ k = b11) k := by
          rintro k hk (rfl | rfl)
          · exact Or.inl rfl
          · exact Or.inr (rfl)
        obtain ⟨hxs, hxm⟩ := x.spec
        have hxa := x.1.ha
        have hxv := x.1.hv
        exact absurd hlen (by simp)
      · skip
        rintro D73 W1 hD ⟨B4, B57, B6, B7, hC, hno⟩ hD_D73 a fr
        have g_D73 := Nat.le_trans hF.size hD
        replace Bn62 := Bn62.only hC (fun h => h.elim (by first | exact ne_bn61_b6 | exact ne_b6_bn61.symm | (show ¬ bn61 = b6; omega)) (by first | exact ne_bn61_b11 | exact ne_b11_bn61.symm | (show ¬ bn61 = b11; omega)))
        replace hF := hF.locS hC (fun i => (fun h => h.elim (fun e => by subst e; exact (.inr g_b6)) (fun e => by subst e; exact (.inr g_b11))))
        have ne_bn61_D73 := Bn62.mark hD_D73
        have ne_b1_D73 := B4.mark hD_D73
        have ne_b54_D73 := B57.mark hD_D73
        have ne_b6_D73 := B6.mark hD_D73
        have ne_b11_D73 := B7.mark hD_D73
        refine fx_blk ?_
        refine fx_next ?_
        refine wp_seq ?_
        refine wp_region_lit ?_  -- region 13
        refine fx_store1 sz22 rfl rfl rfl (fr.ev rfl) rfl rfl B6 (show 0 < 1 by decide) (cs' := #[.int .u32 0]) rfl fun w74 hO75 hBq => ?_
        replace Bn62 := Bn62.only hO75 (by first | exact ne_bn61_b6 | exact ne_b6_bn61.symm | (show ¬ bn61 = b6; omega))
        replace B4 := B4.only hO75 (by first | exact ne_b1_b6 | exact ne_b6_b1.symm | (show ¬ b1 = b6; omega))
        replace B57 := B57.only hO75 (by first | exact ne_b54_b6 | exact ne_b6_b54.symm | (show ¬ b54 = b6; omega))
        replace B7 := B7.only hO75 (by first | exact ne_b11_b6 | exact ne_b6_b11.symm | (show ¬ b11 = b6; omega))
        replace hD_D73 := hD_D73.only hO75 (by first | exact ne_D73_b6 | exact ne_b6_D73.symm | (show ¬ D73 = b6; omega))
        replace hF := hF.loc hO75 (.inr g_b6)
        replace B6 := hBq
        clear hBq
        refine fx_store1 sz29 rfl rfl rfl (fr.ev rfl) rfl rfl B7 (show 0 < 1 by decide) (cs' := #[.int .i64 0]) rfl fun w76 hO77 hBq => ?_
        replace Bn62 := Bn62.only hO77 (by first | exact ne_bn61_b11 | exact ne_b11_bn61.symm | (show ¬ bn61 = b11; omega))
        replace B4 := B4.only hO77 (by first | exact ne_b1_b11 | exact ne_b11_b1.symm | (show ¬ b1 = b11; omega))
        replace B57 := B57.only hO77 (by first | exact ne_b54_b11 | exact ne_b11_b54.symm | (show ¬ b54 = b11; omega))
        replace hD_D73 := hD_D73.only hO77 (by first | exact ne_D73_b11 | exact ne_b11_D73.symm | (show ¬ D73 = b11; omega))
        replace B6 := B6.only hO77 (by first | exact ne_b6_b11 | exact ne_b11_b6.symm | (show ¬ b6 = b11; omega))
        replace hF := hF.loc hO77 (.inr g_b11)
        replace B7 := hBq
        clear hBq
        refine wpList_nil ?_
        refine fx_next ?_
        refine wp_ret ?_
        refine fx_retM1 fr g_D73 hD_D73 [.cell 6 22, .cell 7 29] [.int .u32 0, .int .i64 0] rfl rfl ?_
        intro wE hT
        replace Bn62 := Bn62.turn hT
        replace B4 := B4.turn hT
        replace B57 := B57.turn hT
        replace B6 := B6.turn hT
        replace B7 := B7.turn hT
        replace hF := hF.turn hT (Nat.le_refl _)
        refine ⟨⟨⟨_, rfl, x_loadV1 pl22 (B6.cell 0 rfl)⟩, ⟨_, rfl, x_loadV1 pl29 (B7.cell 0 rfl)⟩, trivial⟩, ?_⟩
        have hf : fwd [] addr wide = (0, 0) := by unfold fwd; rw [if_pos ⟨by rw [hq]; rfl, by rw [hq]; omega⟩]; exact fdone hno
        rw [hf]
        exact ⟨_, rfl, rfl, hF⟩
      · skip
        rintro D73 c pre W1 hD hpre (⟨rfl, n, k, B4, B57, B6, B7, hC, hst⟩) hD_D73 a fr
        have g_D73 := Nat.le_trans hF.size hD
        replace Bn62 := Bn62.only hC (fun h => h.elim (by first | exact ne_bn61_b6 | exact ne_b6_bn61.symm | (show ¬ bn61 = b6; omega)) (by first | exact ne_bn61_b11 | exact ne_b11_bn61.symm | (show ¬ bn61 = b11; omega)))
        replace hF := hF.locS hC (fun i => (fun h => h.elim (fun e => by subst e; exact (.inr g_b6)) (fun e => by subst e; exact (.inr g_b11))))
        have ne_bn61_D73 := Bn62.mark hD_D73
        have ne_b1_D73 := B4.mark hD_D73
        have ne_b54_D73 := B57.mark hD_D73
        have ne_b6_D73 := B6.mark hD_D73
        have ne_b11_D73 := B7.mark hD_D73
        refine wp_ret ?_
        refine fx_rb ?_
        refine fx_rt ?_
        refine fx_retM1 fr g_D73 hD_D73 [.cell 6 22, .cell 7 29] [.int .u32 n, .int .i64 k] rfl rfl ?_
        intro wE hT
        replace Bn62 := Bn62.turn hT
        replace B4 := B4.turn hT
        replace B57 := B57.turn hT
        replace B6 := B6.turn hT
        replace B7 := B7.turn hT
        replace hF := hF.turn hT (Nat.le_refl _)
        refine ⟨⟨⟨_, rfl, x_loadV1 pl22 (B6.cell 0 rfl)⟩, ⟨_, rfl, x_loadV1 pl29 (B7.cell 0 rfl)⟩, trivial⟩, ?_⟩
        have hf : fwd [] addr wide = (n, k) := by unfold fwd; rw [if_pos ⟨by rw [hq]; rfl, by rw [hq]; omega⟩]; exact hst.eq hpre
        rw [hf]
        exact ⟨_, rfl, rfl, hF⟩
  · skip
    refine wp_region_lit ?_  -- region 1
    refine fx_val (v := .int .i64 wide) fr rfl rfl (by first | decide | simp) (x_load1 pl3 rfl (fr.ev rfl) (B4.cell 0 rfl)) ?_
    clear fr a; intro a fr
    refine fx_call fr rfl rfl (by first | decide | simp) (x_call (vs := [.int .i64 wide]) rfl rfl ⟨(fr.ev rfl), trivial⟩ Try.func27 nm27 rfl) (width_c wide _) ?_
    clear fr a
    rintro v w9 ⟨rfl, hw9⟩ a fr
    obtain rfl := hw9.symm
    rw [show wOk wide = true from (by first | rfl | (rw [show wide = 4 by omega]; rfl))] at fr
    refine fx_val (v := .bool false) fr rfl rfl (by first | decide | simp) (x_not rfl (fr.ev rfl) rfl) ?_
    clear fr a; intro a fr
    refine fx_val (v := .bool false) fr rfl rfl (by first | decide | simp) (x_move rfl (fr.ev rfl)) ?_
    clear fr a; intro a fr
    refine fx_val (v := .int .u32 addr) fr (fr.want rfl rfl rfl) rfl (by first | decide | simp) (x_move rfl (fr.ev rfl)) ?_
    clear fr a; intro a fr
    refine fx_val (v := .int .i64 wide) fr (fr.want rfl rfl rfl) rfl (by first | decide | simp) (x_load1 pl3 rfl (fr.ev rfl) (B4.cell 0 rfl)) ?_
    clear fr a; intro a fr
    refine fx_val (v := .int .u32 4) fr (fr.want rfl rfl rfl) rfl (by first | decide | simp) (x_convert Try.underlying3 Try.underlying22 rfl (fr.ev rfl) (u32w (r := 4) (by omega) (by omega))) ?_
    clear fr a; intro a fr
    refine fx_val (v := .int .u32 (addr % 4)) fr (fr.want rfl rfl rfl) rfl (by first | decide | simp) (x_rem rfl (fr.ev rfl) (fr.ev rfl) (by omega) (r := addr % 4) (by first | exact rem_nn (by omega) | (rw [show 4 = 4 by omega]; exact rem_nn (by omega)))) ?_
    clear fr a; intro a fr
    refine fx_val (v := .bool (decide (addr % 4 ≠ 0))) fr (fr.want rfl rfl rfl) rfl (by first | decide | simp) (x_neq rfl (fr.ev rfl) rfl rfl) ?_
    clear fr a; intro a fr
    refine fx_val (v := .bool (decide (addr % 4 ≠ 0))) fr rfl rfl (by first | decide | simp) (x_pick_f rfl (fr.ev rfl) (fr.ev rfl)) ?_
    clear fr a; intro a fr
    refine wpList_nil ?_
    refine fx_next ?_
    refine fx_cond fr rfl (fun hc80 => ?_) (fun hc80 => ?_)
    · skip
      have hc80 := of_decide_eq_true hc80
      refine wp_seq ?_
      refine wp_region_lit ?_  -- region 2
      refine fx_store1 sz22 rfl rfl rfl (fr.ev rfl) rfl rfl B9 (show 0 < 1 by decide) (cs' := #[.int .u32 0]) rfl fun w81 hO82 hBq => ?_
      replace B4 := B4.only hO82 (by first | exact ne_b1_b6 | exact ne_b6_b1.symm | (show ¬ b1 = b6; omega))
      replace B14 := B14.only hO82 (by first | exact ne_b11_b6 | exact ne_b6_b11.symm | (show ¬ b11 = b6; omega))
      replace hF := hF.loc hO82 (.inr g_b6)
      replace B9 := hBq
      clear hBq
      refine fx_store1 sz29 rfl rfl rfl (fr.ev rfl) rfl rfl B14 (show 0 < 1 by decide) (cs' := #[.int .i64 0]) rfl fun w83 hO84 hBq => ?_
      replace B4 := B4.only hO84 (by first | exact ne_b1_b11 | exact ne_b11_b1.symm | (show ¬ b1 = b11; omega))
      replace B9 := B9.only hO84 (by first | exact ne_b6_b11 | exact ne_b11_b6.symm | (show ¬ b6 = b11; omega))
      replace hF := hF.loc hO84 (.inr g_b11)
      replace B14 := hBq
      clear hBq
      refine wpList_nil ?_
      refine fx_next ?_
      refine wp_ret ?_
      refine fx_rt ?_
      refine fx_retM0 fr [.cell 6 22, .cell 7 29] [.int .u32 0, .int .i64 0] rfl ⟨⟨_, rfl, x_loadV1 pl22 (B9.cell 0 rfl)⟩, ⟨_, rfl, x_loadV1 pl29 (B14.cell 0 rfl)⟩, trivial⟩ rfl ?_
      have hf : fwd [] addr wide = (0, 0) := by unfold fwd; rw [if_neg (fun h => by have := h.2; rw [hq] at this; omega)]
      rw [hf]
      exact ⟨_, rfl, rfl, hF⟩
    · skip
      have hc80 := of_decide_eq_false hc80
      refine wp_skip ?_
      refine fx_next ?_
      refine wp_seq ?_
      refine wp_region_lit ?_  -- region 3
      refine fx_val (v := .int .u32 addr) fr rfl rfl (by first | decide | simp) (x_move rfl (fr.ev rfl)) ?_
      clear fr a; intro a fr
      refine fx_val (v := .int .i64 wide) fr rfl rfl (by first | decide | simp) (x_load1 pl3 rfl (fr.ev rfl) (B4.cell 0 rfl)) ?_
      clear fr a; intro a fr
      refine fx_val (v := .agg (stE.arr (mkS addr wide 0))) fr rfl rfl (by first | decide | simp) (x_build (cells := stE.arr (mkS addr wide 0)) rfl (by simp only [List.map_toArray, List.map_cons, List.map_nil, show a.eval (.tmp 21) = .int .u32 addr from fr.ev rfl, show a.eval (.tmp 22) = .int .i64 wide from fr.ev rfl]; kernel_rfl)) ?_
      clear fr a; intro a fr
      refine fx_val (v := .agg (wE.arr (mkS addr wide 0))) fr rfl rfl (by first | decide | simp) (x_build (cells := wE.arr (mkS addr wide 0)) rfl (by simp only [List.map_toArray, List.map_cons, List.map_nil, show a.eval (.tmp 23) = .agg (stE.arr (mkS addr wide 0)) from fr.ev rfl]; kernel_rfl)) ?_
      clear fr a; intro a fr
      refine fx_new fr rfl rfl (by first | decide | simp) (x_alloc (z := .agg (#[.int .u32 0, .int .i64 0, .int .u32 0])) (cs := wE.arr st0) rfl (by kernel_rfl) rfl) ?_
      clear fr a
      intro b85 w86 hN87 B88 hb89 a fr
      have ne_b1_b85 : NE b1 b85 := NE.mk (Nat.lt_of_lt_of_le B4.lt hb89)
      have ne_b6_b85 : NE b6 b85 := NE.mk (Nat.lt_of_lt_of_le B9.lt hb89)
      have ne_b11_b85 : NE b11 b85 := NE.mk (Nat.lt_of_lt_of_le B14.lt hb89)
      have g_b85 := Nat.le_trans hF.size hb89
      replace B4 := B4.new hN87
      replace B9 := B9.new hN87
      replace B14 := B14.new hN87
      replace hF := hF.trNew hN87
      refine fx_storeS sz60 rfl rfl rfl (fr.ev rfl) (fr.ev rfl) (wE.all _) B88 (wE.size _) (wE.size _) fun w90 hO91 hBq => ?_
      replace B4 := B4.only hO91 (by first | exact ne_b1_b85 | exact ne_b85_b1.symm | (show ¬ b1 = b85; omega))
      replace B9 := B9.only hO91 (by first | exact ne_b6_b85 | exact ne_b85_b6.symm | (show ¬ b6 = b85; omega))
      replace B14 := B14.only hO91 (by first | exact ne_b11_b85 | exact ne_b85_b11.symm | (show ¬ b11 = b85; omega))
      replace hF := hF.loc hO91 (.inr g_b85)
      replace B88 := hBq
      clear hBq
      refine wpList_nil ?_
      refine fx_next ?_
      refine wp_seq ?_
      refine wp_seq ?_
      refine wp_region_lit ?_  -- region 4
      refine fx_val (v := .pointer none) fr rfl rfl (by first | decide | simp) (x_move rfl (fr.ev rfl)) ?_
      clear fr a; intro a fr
      refine fx_call fr rfl rfl (by first | decide | simp) (x_call (vs := [.pointer none]) rfl rfl ⟨(fr.ev rfl), trivial⟩ Try.func28 nm28 rfl) (back_nil _) ?_
      clear fr a
      rintro v w95 ⟨bn92, rfl, Bn93, hb94, hN96⟩ a fr
      have ne_b1_bn92 : NE b1 bn92 := NE.mk (Nat.lt_of_lt_of_le B4.lt hb94)
      have ne_b6_bn92 : NE b6 bn92 := NE.mk (Nat.lt_of_lt_of_le B9.lt hb94)
      have ne_b11_bn92 : NE b11 bn92 := NE.mk (Nat.lt_of_lt_of_le B14.lt hb94)
      have ne_b85_bn92 : NE b85 bn92 := NE.mk (Nat.lt_of_lt_of_le B88.lt hb94)
      have g_bn92 := Nat.le_trans hF.size hb94
      replace B4 := B4.new hN96
      replace B9 := B9.new hN96
      replace B14 := B14.new hN96
      replace B88 := B88.new hN96
      replace hF := hF.trNew hN96
      refine wpList_nil ?_
      refine fx_next ?_
      refine wp_block ?_
      have lt_b1 := B4.lt
      have lt_b85 := B88.lt
      have lt_b6 := B9.lt
      have lt_b11 := B14.lt
      refine fx_range (xs := ([] : List VSt)) (e := fun x : VSt => Value.agg (stE.arr x.1)) fr rfl (by decide) (enters_of Try.func37 nm37 rfl) (SI := fun k => k = b6 ∨ k = b11 ∨ w95.heap.size ≤ k) (fun _ h => Or.inr (Or.inr (h))) (all_stops_nil Bn93) (fun pre W => Blk W b1 3 (#[.int .i64 wide]) ∧ Blk W b85 60 (wE.arr (mkS addr wide 0)) ∧ Blk W b6 22 #[.int .u32 0] ∧ Blk W b11 29 #[.int .i64 0] ∧ Only (fun k => k = b6 ∨ k = b11) w95 W ∧ ∀ y ∈ pre, fwd1 addr wide y.1 = none) (fun c pre W => (c = .ret ∧ ∃ n : Int, ∃ k : Int, Blk W b1 3 (#[.int .i64 wide]) ∧ Blk W b85 60 (wE.arr (mkS addr wide 0)) ∧ Blk W b6 22 #[.int .u32 n] ∧ Blk W b11 29 #[.int .i64 k] ∧ Only (fun k => k = b6 ∨ k = b11) w95 W ∧ FStop addr wide pre (n, k))) (fun x a' W => ∃ b97 : Nat, Blk W b97 60 (wE.arr x.1) ∧ w95.heap.size ≤ b97 ∧ Fr (73, []) [(0, .pointer none), (1, .int .u32 addr), (2, .int .i64 wide), (5, .pointer (some ⟨b1, 0, none⟩)), (6, .pointer (some ⟨b6, 0, none⟩)), (7, .pointer (some ⟨b11, 0, none⟩)), (11, .int .i64 wide), (12, .bool true), (13, .bool false), (14, .bool false), (15, .int .u32 addr), (16, .int .i64 wide), (17, .int .u32 4), (18, .int .u32 (addr % 4)), (19, .bool (decide (addr % 4 ≠ 0))), (20, .bool (decide (addr % 4 ≠ 0))), (21, .int .u32 addr), (22, .int .i64 wide), (23, .agg (stE.arr (mkS addr wide 0))), (24, .agg (wE.arr (mkS addr wide 0))), (8, .pointer (some ⟨b85, 0, none⟩)), (25, .pointer none), (26, .func (.func 37) #[] #[.pointer (some ⟨bn92, 0, none⟩)]), (27, .agg (wE.arr x.1)), (9, .pointer (some ⟨b97, 0, none⟩))] a') ?_ ?_ ?_ ?_ ⟨B4, B88, B9, B14, Only.refl _ _, (fun y hy => by simp at hy)⟩ ?_ ?_ ?_ ?_
      · rintro pre W W' ⟨B4, B88, B6, B7, hC, hno⟩ hT; exact ⟨B4.turn hT, B88.turn hT, B6.turn hT, B7.turn hT, hC.turn hT (Nat.le_refl _), hno⟩
      · rintro c pre W W' (⟨rfl, n, k, B4, B88, B6, B7, hC, hst⟩) hT
        exact ⟨rfl, n, k, B4.turn hT, B88.turn hT, B6.turn hT, B7.turn hT, hC.turn hT (Nat.le_refl _), hst⟩
      · rintro x a' _ W W' ⟨b97, B100, h_b97, hf⟩ hT; exact ⟨b97, B100.turn hT, h_b97, hf⟩
      · rintro pre W W' ⟨B4, B88, B6, B7, hC, hno⟩ hN; exact ⟨B4.new hN, B88.new hN, B6.new hN, B7.new hN, hC.trNew hN, hno⟩
      · skip
        rintro l pre x W K ⟨B4, B88, B6, B7, hC, hno⟩ hK a fr
        have hF := Only.refl (fun _ => False) W
        refine fxr_region (by kernel_rfl) (by rintro ⟨_, _, h⟩; exact h) ?_  -- region 5
        refine fx_new fr rfl rfl (by first | decide | simp) (x_alloc (z := .agg (#[.int .u32 0, .int .i64 0, .int .u32 0])) (cs := wE.arr st0) rfl (by kernel_rfl) rfl) ?_
        clear fr a
        intro b97 w98 hN99 B100 hb101 a fr
        have g_b97 := Nat.le_trans hF.size hb101
        replace hF := hF.trNew hN99
        refine fx_storeS sz60 rfl rfl rfl (fr.ev rfl) (fr.ev rfl) (wE.all _) B100 (wE.size _) (wE.size _) fun w102 hO103 hBq => ?_
        replace hF := hF.loc hO103 (.inr g_b97)
        replace B100 := hBq
        clear hBq
        refine wpList_nil ?_
        refine hK _ _ hF ⟨b97, B100, Nat.le_trans hC.size g_b97, fr.sub ⟨rfl, rfl, rfl, rfl, rfl, rfl, rfl, rfl, rfl, rfl, rfl, rfl, rfl, rfl, rfl, rfl, rfl, rfl, rfl, rfl, rfl, rfl, rfl, rfl, rfl, trivial⟩⟩
      · skip
        rintro lq pre x a W ⟨B4, B88, B6, B7, hC, hno⟩ ⟨b97, B100, h_b97, fr⟩ hlen
        have ne_b1_b97 : NE b1 b97 := NE.mk (Nat.lt_of_lt_of_le lt_b1 h_b97)
        have ne_b85_b97 : NE b85 b97 := NE.mk (Nat.lt_of_lt_of_le lt_b85 h_b97)
        have ne_b6_b97 : NE b6 b97 := NE.mk (Nat.lt_of_lt_of_le lt_b6 h_b97)
        have ne_b11_b97 : NE b11 b97 := NE.mk (Nat.lt_of_lt_of_le lt_b11 h_b97)
        have cl_b6 := B6.cells
        have cl_b11 := B7.cells
        have hF := Only.refl (fun k => k = b6 ∨ k = b11) W
        have hcl : ∀ k, k < W.heap.size → (fun k => k = b6 ∨ k = b11) k → (fun k => k = b6 ∨ k = b11 ∨ w95.heap.size ≤ k) k ∧ ∃ o : Obj, W.heap[k]? = some o ∧ o.isCells = true := by
          rintro k _ (rfl | rfl)
          · exact ⟨Or.inl rfl, cl_b6⟩
          · exact ⟨Or.inr (Or.inl rfl), cl_b11⟩
        have hSS : ∀ k, k < w95.heap.size → (fun k => k = b6 ∨ k = b11) k → (fun k => k = b6 ∨ k = b11) k := by
          rintro k hk (rfl | rfl)
          · exact Or.inl rfl
          · exact Or.inr (rfl)
        obtain ⟨hxs, hxm⟩ := x.spec
        have hxa := x.1.ha
        have hxv := x.1.hv
        exact absurd hlen (by simp)
      · skip
        rintro D104 W1 hD ⟨B4, B88, B6, B7, hC, hno⟩ hD_D104 a fr
        have g_D104 := Nat.le_trans hF.size hD
        replace Bn93 := Bn93.only hC (fun h => h.elim (by first | exact ne_bn92_b6 | exact ne_b6_bn92.symm | (show ¬ bn92 = b6; omega)) (by first | exact ne_bn92_b11 | exact ne_b11_bn92.symm | (show ¬ bn92 = b11; omega)))
        replace hF := hF.locS hC (fun i => (fun h => h.elim (fun e => by subst e; exact (.inr g_b6)) (fun e => by subst e; exact (.inr g_b11))))
        have ne_bn92_D104 := Bn93.mark hD_D104
        have ne_b1_D104 := B4.mark hD_D104
        have ne_b85_D104 := B88.mark hD_D104
        have ne_b6_D104 := B6.mark hD_D104
        have ne_b11_D104 := B7.mark hD_D104
        refine fx_blk ?_
        refine fx_next ?_
        refine wp_seq ?_
        refine wp_region_lit ?_  -- region 13
        refine fx_store1 sz22 rfl rfl rfl (fr.ev rfl) rfl rfl B6 (show 0 < 1 by decide) (cs' := #[.int .u32 0]) rfl fun w105 hO106 hBq => ?_
        replace Bn93 := Bn93.only hO106 (by first | exact ne_bn92_b6 | exact ne_b6_bn92.symm | (show ¬ bn92 = b6; omega))
        replace B4 := B4.only hO106 (by first | exact ne_b1_b6 | exact ne_b6_b1.symm | (show ¬ b1 = b6; omega))
        replace B88 := B88.only hO106 (by first | exact ne_b85_b6 | exact ne_b6_b85.symm | (show ¬ b85 = b6; omega))
        replace B7 := B7.only hO106 (by first | exact ne_b11_b6 | exact ne_b6_b11.symm | (show ¬ b11 = b6; omega))
        replace hD_D104 := hD_D104.only hO106 (by first | exact ne_D104_b6 | exact ne_b6_D104.symm | (show ¬ D104 = b6; omega))
        replace hF := hF.loc hO106 (.inr g_b6)
        replace B6 := hBq
        clear hBq
        refine fx_store1 sz29 rfl rfl rfl (fr.ev rfl) rfl rfl B7 (show 0 < 1 by decide) (cs' := #[.int .i64 0]) rfl fun w107 hO108 hBq => ?_
        replace Bn93 := Bn93.only hO108 (by first | exact ne_bn92_b11 | exact ne_b11_bn92.symm | (show ¬ bn92 = b11; omega))
        replace B4 := B4.only hO108 (by first | exact ne_b1_b11 | exact ne_b11_b1.symm | (show ¬ b1 = b11; omega))
        replace B88 := B88.only hO108 (by first | exact ne_b85_b11 | exact ne_b11_b85.symm | (show ¬ b85 = b11; omega))
        replace hD_D104 := hD_D104.only hO108 (by first | exact ne_D104_b11 | exact ne_b11_D104.symm | (show ¬ D104 = b11; omega))
        replace B6 := B6.only hO108 (by first | exact ne_b6_b11 | exact ne_b11_b6.symm | (show ¬ b6 = b11; omega))
        replace hF := hF.loc hO108 (.inr g_b11)
        replace B7 := hBq
        clear hBq
        refine wpList_nil ?_
        refine fx_next ?_
        refine wp_ret ?_
        refine fx_retM1 fr g_D104 hD_D104 [.cell 6 22, .cell 7 29] [.int .u32 0, .int .i64 0] rfl rfl ?_
        intro wE hT
        replace Bn93 := Bn93.turn hT
        replace B4 := B4.turn hT
        replace B88 := B88.turn hT
        replace B6 := B6.turn hT
        replace B7 := B7.turn hT
        replace hF := hF.turn hT (Nat.le_refl _)
        refine ⟨⟨⟨_, rfl, x_loadV1 pl22 (B6.cell 0 rfl)⟩, ⟨_, rfl, x_loadV1 pl29 (B7.cell 0 rfl)⟩, trivial⟩, ?_⟩
        have hf : fwd [] addr wide = (0, 0) := by unfold fwd; rw [if_pos ⟨by rw [hq]; rfl, by rw [hq]; omega⟩]; exact fdone hno
        rw [hf]
        exact ⟨_, rfl, rfl, hF⟩
      · skip
        rintro D104 c pre W1 hD hpre (⟨rfl, n, k, B4, B88, B6, B7, hC, hst⟩) hD_D104 a fr
        have g_D104 := Nat.le_trans hF.size hD
        replace Bn93 := Bn93.only hC (fun h => h.elim (by first | exact ne_bn92_b6 | exact ne_b6_bn92.symm | (show ¬ bn92 = b6; omega)) (by first | exact ne_bn92_b11 | exact ne_b11_bn92.symm | (show ¬ bn92 = b11; omega)))
        replace hF := hF.locS hC (fun i => (fun h => h.elim (fun e => by subst e; exact (.inr g_b6)) (fun e => by subst e; exact (.inr g_b11))))
        have ne_bn92_D104 := Bn93.mark hD_D104
        have ne_b1_D104 := B4.mark hD_D104
        have ne_b85_D104 := B88.mark hD_D104
        have ne_b6_D104 := B6.mark hD_D104
        have ne_b11_D104 := B7.mark hD_D104
        refine wp_ret ?_
        refine fx_rb ?_
        refine fx_rt ?_
        refine fx_retM1 fr g_D104 hD_D104 [.cell 6 22, .cell 7 29] [.int .u32 n, .int .i64 k] rfl rfl ?_
        intro wE hT
        replace Bn93 := Bn93.turn hT
        replace B4 := B4.turn hT
        replace B88 := B88.turn hT
        replace B6 := B6.turn hT
        replace B7 := B7.turn hT
        replace hF := hF.turn hT (Nat.le_refl _)
        refine ⟨⟨⟨_, rfl, x_loadV1 pl22 (B6.cell 0 rfl)⟩, ⟨_, rfl, x_loadV1 pl29 (B7.cell 0 rfl)⟩, trivial⟩, ?_⟩
        have hf : fwd [] addr wide = (n, k) := by unfold fwd; rw [if_pos ⟨by rw [hq]; rfl, by rw [hq]; omega⟩]; exact hst.eq hpre
        rw [hf]
        exact ⟨_, rfl, rfl, hF⟩
  · skip
    refine wp_region_lit ?_  -- region 1
    refine fx_val (v := .int .i64 wide) fr rfl rfl (by first | decide | simp) (x_load1 pl3 rfl (fr.ev rfl) (B4.cell 0 rfl)) ?_
    clear fr a; intro a fr
    refine fx_call fr rfl rfl (by first | decide | simp) (x_call (vs := [.int .i64 wide]) rfl rfl ⟨(fr.ev rfl), trivial⟩ Try.func27 nm27 rfl) (width_c wide _) ?_
    clear fr a
    rintro v w9 ⟨rfl, hw9⟩ a fr
    obtain rfl := hw9.symm
    rw [hq] at fr
    refine fx_val (v := .bool true) fr rfl rfl (by first | decide | simp) (x_not rfl (fr.ev rfl) rfl) ?_
    clear fr a; intro a fr
    refine fx_val (v := .bool true) fr rfl rfl (by first | decide | simp) (x_move rfl (fr.ev rfl)) ?_
    clear fr a; intro a fr
    refine fx_skip fr (fr.unwant rfl rfl rfl (by decide)) rfl (by first | decide | simp) ?_
    clear fr a; intro a fr
    refine fx_skip fr (fr.unwant rfl rfl rfl (by decide)) rfl (by first | decide | simp) ?_
    clear fr a; intro a fr
    refine fx_skip fr (fr.unwant rfl rfl rfl (by decide)) rfl (by first | decide | simp) ?_
    clear fr a; intro a fr
    refine fx_skip fr (fr.unwant rfl rfl rfl (by decide)) rfl (by first | decide | simp) ?_
    clear fr a; intro a fr
    refine fx_skip fr (fr.unwant rfl rfl rfl (by decide)) rfl (by first | decide | simp) ?_
    clear fr a; intro a fr
    refine fx_val (v := .bool true) fr rfl rfl (by first | decide | simp) (x_pick_t rfl (fr.ev rfl) rfl) ?_
    clear fr a; intro a fr
    refine wpList_nil ?_
    refine fx_next ?_
    refine fx_cond_t fr rfl ?_
    refine wp_seq ?_
    refine wp_region_lit ?_  -- region 2
    refine fx_store1 sz22 rfl rfl rfl (fr.ev rfl) rfl rfl B9 (show 0 < 1 by decide) (cs' := #[.int .u32 0]) rfl fun w111 hO112 hBq => ?_
    replace B4 := B4.only hO112 (by first | exact ne_b1_b6 | exact ne_b6_b1.symm | (show ¬ b1 = b6; omega))
    replace B14 := B14.only hO112 (by first | exact ne_b11_b6 | exact ne_b6_b11.symm | (show ¬ b11 = b6; omega))
    replace hF := hF.loc hO112 (.inr g_b6)
    replace B9 := hBq
    clear hBq
    refine fx_store1 sz29 rfl rfl rfl (fr.ev rfl) rfl rfl B14 (show 0 < 1 by decide) (cs' := #[.int .i64 0]) rfl fun w113 hO114 hBq => ?_
    replace B4 := B4.only hO114 (by first | exact ne_b1_b11 | exact ne_b11_b1.symm | (show ¬ b1 = b11; omega))
    replace B9 := B9.only hO114 (by first | exact ne_b6_b11 | exact ne_b11_b6.symm | (show ¬ b6 = b11; omega))
    replace hF := hF.loc hO114 (.inr g_b11)
    replace B14 := hBq
    clear hBq
    refine wpList_nil ?_
    refine fx_next ?_
    refine wp_ret ?_
    refine fx_rt ?_
    refine fx_retM0 fr [.cell 6 22, .cell 7 29] [.int .u32 0, .int .i64 0] rfl ⟨⟨_, rfl, x_loadV1 pl22 (B9.cell 0 rfl)⟩, ⟨_, rfl, x_loadV1 pl29 (B14.cell 0 rfl)⟩, trivial⟩ rfl ?_
    have hf : fwd [] addr wide = (0, 0) := by unfold fwd; rw [if_neg (fun h => by have := h.1; rw [hq] at this; cases this)]
    rw [hf]
    exact ⟨_, rfl, rfl, hF⟩
set_option maxRecDepth 100000 in
set_option maxHeartbeats 4000000 in
theorem rforward_c {w : World} {A : Option Addr} {cap : Nat} {l : List VSt} (hV : View stE w A cap (vals l)) (addr wide : Int) (ha : 0 ≤ addr ∧ addr < 4294967296) : Calls Try.prog 13 #[.slice A ((vals l).length) cap, .int .u32 addr, .int .i64 wide] w (Ret fun v w' => v = .tuple #[.int .u32 (fwd l addr wide).1, .int .i64 (fwd l addr wide).2] ∧ New w w') := by
  have hVl := hV.len
  unfold maxLen at hVl
  have hvl := vals_len l
  have hF := Only.refl (fun _ => False) w
  refine fx_enter Try.func13 rfl (N := (60, [])) (T := [(0, .slice A ((vals l).length) cap), (1, .int .u32 addr), (2, .int .i64 wide)]) rfl (show 3 ≤ 60 by decide) ⟨rfl, rfl, rfl, trivial⟩ fun a fr => ?_
  refine wp_seq ?_
  refine wp_region_lit ?_  -- region 0
  refine fx_val (v := .int .u32 0) fr rfl rfl (by first | decide | simp) (x_assign rfl rfl) ?_
  clear fr a; intro a fr
  refine fx_val (v := .int .i64 0) fr rfl rfl (by first | decide | simp) (x_assign rfl rfl) ?_
  clear fr a; intro a fr
  refine wpList_nil ?_
  refine fx_next ?_
  refine wp_seq ?_
  refine wp_seq ?_
  rcases w_cases wide with hq | hq | hq | hq
  · skip
    refine wp_region_lit ?_  -- region 1
    refine fx_val (v := .int .i64 wide) fr rfl rfl (by first | decide | simp) (x_move rfl (fr.ev rfl)) ?_
    clear fr a; intro a fr
    refine fx_call fr rfl rfl (by first | decide | simp) (x_call (vs := [.int .i64 wide]) rfl rfl ⟨(fr.ev rfl), trivial⟩ Try.func32 nm32 rfl) (rwide_c wide _) ?_
    clear fr a
    rintro v w9 ⟨rfl, hw9⟩ a fr
    obtain rfl := hw9.symm
    rw [show wOk wide = true from (by first | rfl | (rw [show wide = 1 by omega]; rfl))] at fr
    refine fx_val (v := .bool false) fr rfl rfl (by first | decide | simp) (x_not rfl (fr.ev rfl) rfl) ?_
    clear fr a; intro a fr
    refine fx_val (v := .bool false) fr rfl rfl (by first | decide | simp) (x_move rfl (fr.ev rfl)) ?_
    clear fr a; intro a fr
    refine fx_val (v := .int .u32 addr) fr (fr.want rfl rfl rfl) rfl (by first | decide | simp) (x_move rfl (fr.ev rfl)) ?_
    clear fr a; intro a fr
    refine fx_val (v := .int .i64 addr) fr (fr.want rfl rfl rfl) rfl (by first | decide | simp) (x_convert Try.underlying22 Try.underlying2 rfl (fr.ev rfl) (i64w (r := addr) rfl (by omega))) ?_
    clear fr a; intro a fr
    refine fx_val (v := .int .i64 wide) fr (fr.want rfl rfl rfl) rfl (by first | decide | simp) (x_move rfl (fr.ev rfl)) ?_
    clear fr a; intro a fr
    refine fx_val (v := .int .i64 (addr % 1)) fr (fr.want rfl rfl rfl) rfl (by first | decide | simp) (x_rem rfl (fr.ev rfl) (fr.ev rfl) (by omega) (r := addr % 1) (by first | exact rem_nn (by omega) | (rw [show wide = 1 by omega]; exact rem_nn (by omega)))) ?_
    clear fr a; intro a fr
    refine fx_val (v := .bool (decide (addr % 1 ≠ 0))) fr (fr.want rfl rfl rfl) rfl (by first | decide | simp) (x_neq rfl (fr.ev rfl) rfl rfl) ?_
    clear fr a; intro a fr
    refine fx_val (v := .bool (decide (addr % 1 ≠ 0))) fr rfl rfl (by first | decide | simp) (x_pick_f rfl (fr.ev rfl) (fr.ev rfl)) ?_
    clear fr a; intro a fr
    refine wpList_nil ?_
    refine fx_next ?_
    refine fx_cond fr rfl (fun hc3 => ?_) (fun hc3 => ?_)
    · skip
      have hc3 := of_decide_eq_true hc3
      refine wp_seq ?_
      refine wp_region_lit ?_  -- region 2
      refine fx_val (v := .int .u32 0) fr rfl rfl (by first | decide | simp) (x_assign rfl rfl) ?_
      clear fr a; intro a fr
      refine fx_val (v := .int .i64 0) fr rfl rfl (by first | decide | simp) (x_assign rfl rfl) ?_
      clear fr a; intro a fr
      refine wpList_nil ?_
      refine fx_next ?_
      refine wp_ret ?_
      refine fx_rt ?_
      refine fx_ret fr [.tmp 6, .tmp 7] [.int .u32 0, .int .i64 0] rfl ⟨rfl, rfl, trivial⟩ rfl ?_
      have hf : fwd l addr wide = (0, 0) := by unfold fwd; rw [if_neg (fun h => by have := h.2; rw [hq] at this; omega)]
      rw [hf]
      exact ⟨_, rfl, rfl, hF⟩
    · skip
      have hc3 := of_decide_eq_false hc3
      refine wp_skip ?_
      refine fx_next ?_
      refine wp_seq ?_
      refine wp_seq ?_
      refine wp_region_lit ?_  -- region 3
      refine fx_val (v := .slice A ((vals l).length) cap) fr rfl rfl (by first | decide | simp) (x_move rfl (fr.ev rfl)) ?_
      clear fr a; intro a fr
      refine fx_val (v := .int .i64 (((vals l).length : Nat) : Int)) fr rfl rfl (by first | decide | simp) (x_len Try.underlying32 rfl (fr.ev rfl)) ?_
      clear fr a; intro a fr
      refine fx_val (v := .int .i64 ((((vals l).length : Nat) : Int) - 1)) fr rfl rfl (by first | decide | simp) (x_sub rfl (fr.ev rfl) rfl (i64w (r := (((vals l).length : Nat) : Int) - 1) (by omega) (by omega))) ?_
      clear fr a; intro a fr
      refine fx_val (v := .int .i64 ((((vals l).length : Nat) : Int) - 1)) fr rfl rfl (by first | decide | simp) (x_assign rfl (fr.ev rfl)) ?_
      clear fr a; intro a fr
      refine wpList_nil ?_
      refine fx_next ?_
      refine wp_block ?_
      rw [show (((vals l).length : Nat) : Int) - 1 = (((vals l).length : Nat) : Int) - 1 - ((0 : Nat) : Int) by simp] at fr
      refine fx_loop (fun nM a wL => ∃ j : Nat, nM = l.length - j ∧ Fr (60, []) [(0, .slice A ((vals l).length) cap), (1, .int .u32 addr), (2, .int .i64 wide), (8, .int .i64 ((((vals l).length : Nat) : Int) - 1 - ((j : Nat) : Int)))] a ∧ Only (fun _ => False) w wL ∧ View stE wL A cap (vals l) ∧ j ≤ l.length ∧ ∀ y ∈ l.reverse.take j, fwd1 addr wide y.1 = none) (n0 := _) ⟨0, rfl, fr.sub ⟨rfl, rfl, rfl, rfl, trivial⟩, hF, hV, by omega, (fun y hy => by simp at hy)⟩ ?_
      rintro n5 a w4 ⟨j, rfl, fr, hF, hV, hj, hno⟩
      refine wp_seq ?_
      refine wp_seq ?_
      refine wp_region_lit ?_  -- region 4
      refine fx_val (v := .int .i64 ((((vals l).length : Nat) : Int) - 1 - ((j : Nat) : Int))) fr rfl rfl (by first | decide | simp) (x_move rfl (fr.ev rfl)) ?_
      clear fr a; intro a fr
      refine fx_val (v := .bool (decide (0 ≤ (((vals l).length : Nat) : Int) - 1 - ((j : Nat) : Int)))) fr rfl rfl (by first | decide | simp) (x_geq rfl (fr.ev rfl) rfl rfl) ?_
      clear fr a; intro a fr
      refine wpList_nil ?_
      refine fx_next ?_
      refine fx_cond fr rfl (fun hc6 => ?_) (fun hc6 => ?_)
      · skip
        have hc6 := of_decide_eq_true hc6
        refine wp_skip ?_
        refine fx_next ?_
        refine wp_seq ?_
        refine wp_block ?_
        refine wp_seq ?_
        rw [show (((vals l).length : Nat) : Int) - 1 - ((j : Nat) : Int) = (((vals l).length - 1 - j : Nat) : Int) by omega] at fr
        have hxe : ((vals l).getD ((vals l).length - 1 - j) st0) = (l.getD (l.length - 1 - j) v0).1 := by rw [hvl]; exact vals_at l _ (by omega)
        have hacc := acc_one (l.getD (l.length - 1 - j) v0) (a := addr) (w := wide) (by omega)
        rw [← hxe] at hacc
        refine wp_region_lit ?_  -- region 6
        refine fx_val (v := .int .u32 0) fr rfl rfl (by first | decide | simp) (x_assign rfl rfl) ?_
        clear fr a; intro a fr
        refine fx_val (v := .int .i64 0) fr rfl rfl (by first | decide | simp) (x_assign rfl rfl) ?_
        clear fr a; intro a fr
        refine wpList_nil ?_
        refine fx_next ?_
        refine wp_seq ?_
        refine wp_seq ?_
        refine wp_region_lit ?_  -- region 7
        refine fx_val (v := .int .i64 wide) fr rfl rfl (by first | decide | simp) (x_move rfl (fr.ev rfl)) ?_
        clear fr a; intro a fr
        refine fx_val (v := .int .i64 (wide - 1)) fr rfl rfl (by first | decide | simp) (x_sub rfl (fr.ev rfl) rfl (i64w (r := wide - 1) (by omega) (by omega))) ?_
        clear fr a; intro a fr
        refine fx_val (v := .int .i64 (wide - 1)) fr rfl rfl (by first | decide | simp) (x_assign rfl (fr.ev rfl)) ?_
        clear fr a; intro a fr
        refine wpList_nil ?_
        refine fx_next ?_
        refine wp_block ?_
        rw [show wide - 1 = wide - 1 - ((0 : Nat) : Int) by simp] at fr
        refine fx_loop (fun nM a wL => ∃ q : Nat, nM = wide.toNat - q ∧ Fr (60, []) [(0, .slice A ((vals l).length) cap), (1, .int .u32 addr), (2, .int .i64 wide), (8, .int .i64 (((vals l).length - 1 - j : Nat) : Int)), (9, .int .u32 ((accF ((vals l).getD ((vals l).length - 1 - j) st0) addr wide q).1)), (10, .int .i64 ((accF ((vals l).getD ((vals l).length - 1 - j) st0) addr wide q).2)), (11, .int .i64 (wide - 1 - ((q : Nat) : Int)))] a ∧ Only (fun _ => False) w wL ∧ View stE wL A cap (vals l) ∧ ((q : Nat) : Int) ≤ wide) (n0 := _) ⟨0, rfl, fr.sub ⟨rfl, rfl, rfl, rfl, rfl, rfl, rfl, trivial⟩, hF, hV, by omega⟩ ?_
        rintro n8 a w7 ⟨q, rfl, fr, hF, hV, hqw0⟩
        have hbd := hasB_bd ((vals l).getD ((vals l).length - 1 - j) st0) (addr + (wide - 1 - ((q : Nat) : Int)))
        refine wp_seq ?_
        refine wp_seq ?_
        refine wp_region_lit ?_  -- region 8
        refine fx_val (v := .int .i64 (wide - 1 - ((q : Nat) : Int))) fr rfl rfl (by first | decide | simp) (x_move rfl (fr.ev rfl)) ?_
        clear fr a; intro a fr
        refine fx_val (v := .bool (decide (0 ≤ wide - 1 - ((q : Nat) : Int)))) fr rfl rfl (by first | decide | simp) (x_geq rfl (fr.ev rfl) rfl rfl) ?_
        clear fr a; intro a fr
        refine wpList_nil ?_
        refine fx_next ?_
        refine fx_cond fr rfl (fun hc9 => ?_) (fun hc9 => ?_)
        · skip
          have hc9 := of_decide_eq_true hc9
          refine wp_skip ?_
          refine fx_next ?_
          refine wp_seq ?_
          refine wp_block ?_
          refine wp_seq ?_
          have hac := accF_bd3 (q := q) ((vals l).getD ((vals l).length - 1 - j) st0) addr wide (by omega)
          refine wp_region_lit ?_  -- region 10
          refine fx_val (v := .slice A ((vals l).length) cap) fr rfl rfl (by first | decide | simp) (x_move rfl (fr.ev rfl)) ?_
          clear fr a; intro a fr
          refine fx_val (v := .int .i64 (((vals l).length - 1 - j : Nat) : Int)) fr rfl rfl (by first | decide | simp) (x_move rfl (fr.ev rfl)) ?_
          clear fr a; intro a fr
          obtain ⟨g10, o11, hA12⟩ := (hV).some_ (by omega)
          refine fx_val (v := .pointer (some ⟨g10, o11 + ((vals l).length - 1 - j) * 3, none⟩)) fr rfl rfl (by first | decide | simp) (x_indexV Try.underlying32 sz24 rfl (fr.ev rfl) hA12 (fr.ev rfl) (by omega) rfl) ?_
          clear fr a; intro a fr
          refine fx_val (v := .agg (stE.arr ((vals l).getD ((vals l).length - 1 - j) st0))) fr rfl rfl (by first | decide | simp) (x_loadE (E := stE) ag24 rfl rfl (fr.ev rfl) ((hV).elem hA12 ((vals l).length - 1 - j) st0 (by omega))) ?_
          clear fr a; intro a fr
          refine fx_val (v := .int .u32 addr) fr rfl rfl (by first | decide | simp) (x_move rfl (fr.ev rfl)) ?_
          clear fr a; intro a fr
          refine fx_val (v := .int .i64 addr) fr rfl rfl (by first | decide | simp) (x_convert Try.underlying22 Try.underlying2 rfl (fr.ev rfl) (i64w (r := addr) rfl (by omega))) ?_
          clear fr a; intro a fr
          refine fx_val (v := .int .i64 (wide - 1 - ((q : Nat) : Int))) fr rfl rfl (by first | decide | simp) (x_move rfl (fr.ev rfl)) ?_
          clear fr a; intro a fr
          refine fx_val (v := .int .i64 (addr + (wide - 1 - ((q : Nat) : Int)))) fr rfl rfl (by first | decide | simp) (x_add rfl (fr.ev rfl) (fr.ev rfl) (i64w (r := addr + (wide - 1 - ((q : Nat) : Int))) (by omega) (by omega))) ?_
          clear fr a; intro a fr
          refine fx_call fr rfl rfl (by first | decide | simp) (x_call (vs := [.agg (stE.arr ((vals l).getD ((vals l).length - 1 - j) st0)), .int .i64 (addr + (wide - 1 - ((q : Nat) : Int)))]) rfl rfl ⟨(fr.ev rfl), (fr.ev rfl), trivial⟩ Try.func33 nm33 rfl) (has_c ((vals l).getD ((vals l).length - 1 - j) st0) (addr + (wide - 1 - ((q : Nat) : Int))) _ (by omega)) ?_
          clear fr a
          rintro v w13 ⟨rfl, hN14⟩ a fr
          replace hV := hV.new hN14
          replace hF := hF.trNew hN14
          refine fx_val (v := .int .i64 (hasB ((vals l).getD ((vals l).length - 1 - j) st0) (addr + (wide - 1 - ((q : Nat) : Int))))) fr rfl rfl (by first | decide | simp) (x_assign rfl (fr.ev rfl)) ?_
          clear fr a; intro a fr
          refine wpList_nil ?_
          refine fx_next ?_
          refine wp_seq ?_
          refine wp_region_lit ?_  -- region 11
          refine fx_val (v := .int .i64 (hasB ((vals l).getD ((vals l).length - 1 - j) st0) (addr + (wide - 1 - ((q : Nat) : Int))))) fr rfl rfl (by first | decide | simp) (x_move rfl (fr.ev rfl)) ?_
          clear fr a; intro a fr
          refine fx_val (v := .bool (decide (0 ≤ hasB ((vals l).getD ((vals l).length - 1 - j) st0) (addr + (wide - 1 - ((q : Nat) : Int)))))) fr rfl rfl (by first | decide | simp) (x_geq rfl (fr.ev rfl) rfl rfl) ?_
          clear fr a; intro a fr
          refine wpList_nil ?_
          refine fx_next ?_
          refine fx_cond fr rfl (fun hc15 => ?_) (fun hc15 => ?_)
          · skip
            have hc15 := of_decide_eq_true hc15
            refine wp_seq ?_
            refine wp_region_lit ?_  -- region 12
            refine fx_val (v := .int .i64 ((accF ((vals l).getD ((vals l).length - 1 - j) st0) addr wide q).2)) fr rfl rfl (by first | decide | simp) (x_move rfl (fr.ev rfl)) ?_
            clear fr a; intro a fr
            refine fx_val (v := .int .i64 ((accF ((vals l).getD ((vals l).length - 1 - j) st0) addr wide q).2 + 1)) fr rfl rfl (by first | decide | simp) (x_add rfl (fr.ev rfl) rfl (i64w (r := (accF ((vals l).getD ((vals l).length - 1 - j) st0) addr wide q).2 + 1) (by omega) (by omega))) ?_
            clear fr a; intro a fr
            refine fx_val (v := .int .i64 ((accF ((vals l).getD ((vals l).length - 1 - j) st0) addr wide q).2 + 1)) fr rfl rfl (by first | decide | simp) (x_assign rfl (fr.ev rfl)) ?_
            clear fr a; intro a fr
            refine wpList_nil ?_
            refine fx_next ?_
            refine wp_region_lit ?_  -- region 13
            refine fx_val (v := .int .u32 ((accF ((vals l).getD ((vals l).length - 1 - j) st0) addr wide q).1)) fr rfl rfl (by first | decide | simp) (x_move rfl (fr.ev rfl)) ?_
            clear fr a; intro a fr
            refine fx_val (v := .int .u32 (((accF ((vals l).getD ((vals l).length - 1 - j) st0) addr wide q).1) * 256)) fr rfl rfl (by first | decide | simp) (x_mul rfl (fr.ev rfl) rfl (u32w (r := ((accF ((vals l).getD ((vals l).length - 1 - j) st0) addr wide q).1) * 256) rfl (by omega))) ?_
            clear fr a; intro a fr
            refine fx_val (v := .int .i64 (hasB ((vals l).getD ((vals l).length - 1 - j) st0) (addr + (wide - 1 - ((q : Nat) : Int))))) fr rfl rfl (by first | decide | simp) (x_move rfl (fr.ev rfl)) ?_
            clear fr a; intro a fr
            refine fx_val (v := .int .u32 (hasB ((vals l).getD ((vals l).length - 1 - j) st0) (addr + (wide - 1 - ((q : Nat) : Int))))) fr rfl rfl (by first | decide | simp) (x_convert Try.underlying3 Try.underlying22 rfl (fr.ev rfl) (u32w (r := hasB ((vals l).getD ((vals l).length - 1 - j) st0) (addr + (wide - 1 - ((q : Nat) : Int)))) rfl (by omega))) ?_
            clear fr a; intro a fr
            refine fx_val (v := .int .u32 (((accF ((vals l).getD ((vals l).length - 1 - j) st0) addr wide q).1) * 256 + (hasB ((vals l).getD ((vals l).length - 1 - j) st0) (addr + (wide - 1 - ((q : Nat) : Int)))))) fr rfl rfl (by first | decide | simp) (x_add rfl (fr.ev rfl) (fr.ev rfl) (u32w (r := ((accF ((vals l).getD ((vals l).length - 1 - j) st0) addr wide q).1) * 256 + (hasB ((vals l).getD ((vals l).length - 1 - j) st0) (addr + (wide - 1 - ((q : Nat) : Int))))) rfl (by omega))) ?_
            clear fr a; intro a fr
            refine fx_val (v := .int .u32 (((accF ((vals l).getD ((vals l).length - 1 - j) st0) addr wide q).1) * 256 + (hasB ((vals l).getD ((vals l).length - 1 - j) st0) (addr + (wide - 1 - ((q : Nat) : Int)))))) fr rfl rfl (by first | decide | simp) (x_assign rfl (fr.ev rfl)) ?_
            clear fr a; intro a fr
            refine wpList_nil ?_
            refine fx_blk ?_
            refine fx_next ?_
            refine wp_region_lit ?_  -- region 9
            refine fx_val (v := .int .i64 (wide - 1 - ((q : Nat) : Int))) fr rfl rfl (by first | decide | simp) (x_move rfl (fr.ev rfl)) ?_
            clear fr a; intro a fr
            refine fx_val (v := .int .i64 (wide - 1 - ((q + 1 : Nat) : Int))) fr rfl rfl (by first | decide | simp) (x_sub rfl (fr.ev rfl) rfl (i64w (r := wide - 1 - ((q + 1 : Nat) : Int)) (by omega) (by omega))) ?_
            clear fr a; intro a fr
            refine fx_val (v := .int .i64 (wide - 1 - ((q + 1 : Nat) : Int))) fr rfl rfl (by first | decide | simp) (x_assign rfl (fr.ev rfl)) ?_
            clear fr a; intro a fr
            refine wpList_nil ?_
            refine fx_next ?_
            rw [← (accF_yes hc15).1, ← (accF_yes hc15).2] at fr
            exact ⟨_, by omega, (q + 1), rfl, fr.sub ⟨rfl, rfl, rfl, rfl, rfl, rfl, rfl, trivial⟩, hF, hV, by omega⟩
          · skip
            have hc15 := of_decide_eq_false hc15
            refine wp_skip ?_
            refine fx_blk ?_
            refine fx_next ?_
            refine wp_region_lit ?_  -- region 9
            refine fx_val (v := .int .i64 (wide - 1 - ((q : Nat) : Int))) fr rfl rfl (by first | decide | simp) (x_move rfl (fr.ev rfl)) ?_
            clear fr a; intro a fr
            refine fx_val (v := .int .i64 (wide - 1 - ((q + 1 : Nat) : Int))) fr rfl rfl (by first | decide | simp) (x_sub rfl (fr.ev rfl) rfl (i64w (r := wide - 1 - ((q + 1 : Nat) : Int)) (by omega) (by omega))) ?_
            clear fr a; intro a fr
            refine fx_val (v := .int .i64 (wide - 1 - ((q + 1 : Nat) : Int))) fr rfl rfl (by first | decide | simp) (x_assign rfl (fr.ev rfl)) ?_
            clear fr a; intro a fr
            refine wpList_nil ?_
            refine fx_next ?_
            rw [← accF_no hc15] at fr
            exact ⟨_, by omega, (q + 1), rfl, fr.sub ⟨rfl, rfl, rfl, rfl, rfl, rfl, rfl, trivial⟩, hF, hV, by omega⟩
        · skip
          have hc9 := of_decide_eq_false hc9
          refine wp_exit ?_
          refine fx_xt ?_
          refine fx_xt ?_
          refine fx_xx ?_
          refine fx_next ?_
          refine wp_seq ?_
          refine wp_seq ?_
          have hqw : wide.toNat = q := by omega
          rw [hqw] at hacc
          refine wp_region_lit ?_  -- region 14
          refine fx_val (v := .int .i64 ((accF ((vals l).getD ((vals l).length - 1 - j) st0) addr wide q).2)) fr rfl rfl (by first | decide | simp) (x_move rfl (fr.ev rfl)) ?_
          clear fr a; intro a fr
          refine fx_val (v := .int .i64 wide) fr rfl rfl (by first | decide | simp) (x_move rfl (fr.ev rfl)) ?_
          clear fr a; intro a fr
          refine fx_val (v := .bool (decide ((accF ((vals l).getD ((vals l).length - 1 - j) st0) addr wide q).2 = wide))) fr rfl rfl (by first | decide | simp) (x_eql rfl (fr.ev rfl) (fr.ev rfl) rfl) ?_
          clear fr a; intro a fr
          refine wpList_nil ?_
          refine fx_next ?_
          refine fx_cond fr rfl (fun hc16 => ?_) (fun hc16 => ?_)
          · skip
            have hc16 := of_decide_eq_true hc16
            refine wp_seq ?_
            refine wp_region_lit ?_  -- region 15
            refine fx_val (v := .int .u32 ((accF ((vals l).getD ((vals l).length - 1 - j) st0) addr wide q).1)) fr rfl rfl (by first | decide | simp) (x_move rfl (fr.ev rfl)) ?_
            clear fr a; intro a fr
            refine fx_val (v := .int .u32 ((accF ((vals l).getD ((vals l).length - 1 - j) st0) addr wide q).1)) fr rfl rfl (by first | decide | simp) (x_assign rfl (fr.ev rfl)) ?_
            clear fr a; intro a fr
            refine fx_val (v := .int .i64 1) fr rfl rfl (by first | decide | simp) (x_assign rfl rfl) ?_
            clear fr a; intro a fr
            refine wpList_nil ?_
            refine fx_next ?_
            refine wp_ret ?_
            refine fx_rt ?_
            refine fx_rb ?_
            refine fx_rt ?_
            refine fx_rt ?_
            refine fx_rb ?_
            refine fx_rt ?_
            refine fx_ret fr [.tmp 6, .tmp 7] [.int .u32 ((accF ((vals l).getD ((vals l).length - 1 - j) st0) addr wide q).1), .int .i64 1] rfl ⟨rfl, rfl, trivial⟩ rfl ?_
            have hf : fwd l addr wide = ((accF ((vals l).getD ((vals l).length - 1 - j) st0) addr wide q).1, 1) := by unfold fwd; rw [if_pos ⟨by rw [hq]; rfl, by rw [hq]; omega⟩]; exact FStop.eq ⟨l.reverse.take j, _, rfl, hno, (by rw [← hxe]; exact hacc.1 (by omega))⟩ (by rw [← rev_take (by omega)]; exact List.take_prefix _ _)
            rw [hf]
            exact ⟨_, rfl, rfl, hF⟩
          · skip
            have hc16 := of_decide_eq_false hc16
            refine wp_skip ?_
            refine fx_next ?_
            refine wp_seq ?_
            refine wp_region_lit ?_  -- region 16
            refine fx_val (v := .int .i64 ((accF ((vals l).getD ((vals l).length - 1 - j) st0) addr wide q).2)) fr rfl rfl (by first | decide | simp) (x_move rfl (fr.ev rfl)) ?_
            clear fr a; intro a fr
            refine fx_val (v := .bool (decide (0 < (accF ((vals l).getD ((vals l).length - 1 - j) st0) addr wide q).2))) fr rfl rfl (by first | decide | simp) (x_gtr rfl (fr.ev rfl) rfl rfl) ?_
            clear fr a; intro a fr
            refine wpList_nil ?_
            refine fx_next ?_
            refine fx_cond fr rfl (fun hc17 => ?_) (fun hc17 => ?_)
            · skip
              have hc17 := of_decide_eq_true hc17
              refine wp_seq ?_
              refine wp_region_lit ?_  -- region 17
              refine fx_val (v := .int .u32 0) fr rfl rfl (by first | decide | simp) (x_assign rfl rfl) ?_
              clear fr a; intro a fr
              refine fx_val (v := .int .i64 2) fr rfl rfl (by first | decide | simp) (x_assign rfl rfl) ?_
              clear fr a; intro a fr
              refine wpList_nil ?_
              refine fx_next ?_
              refine wp_ret ?_
              refine fx_rb ?_
              refine fx_rt ?_
              refine fx_rt ?_
              refine fx_rb ?_
              refine fx_rt ?_
              refine fx_ret fr [.tmp 6, .tmp 7] [.int .u32 0, .int .i64 2] rfl ⟨rfl, rfl, trivial⟩ rfl ?_
              have hf : fwd l addr wide = (0, 2) := by unfold fwd; rw [if_pos ⟨by rw [hq]; rfl, by rw [hq]; omega⟩]; exact FStop.eq ⟨l.reverse.take j, _, rfl, hno, (by rw [← hxe]; exact hacc.2.1 (by omega) (by omega))⟩ (by rw [← rev_take (by omega)]; exact List.take_prefix _ _)
              rw [hf]
              exact ⟨_, rfl, rfl, hF⟩
            · skip
              have hc17 := of_decide_eq_false hc17
              refine wp_skip ?_
              refine fx_blk ?_
              refine fx_next ?_
              rw [show (((vals l).length - 1 - j : Nat) : Int) = (((vals l).length : Nat) : Int) - 1 - ((j : Nat) : Int) by omega] at fr
              refine wp_region_lit ?_  -- region 5
              refine fx_val (v := .int .i64 ((((vals l).length : Nat) : Int) - 1 - ((j : Nat) : Int))) fr rfl rfl (by first | decide | simp) (x_move rfl (fr.ev rfl)) ?_
              clear fr a; intro a fr
              refine fx_val (v := .int .i64 ((((vals l).length : Nat) : Int) - 1 - ((j + 1 : Nat) : Int))) fr rfl rfl (by first | decide | simp) (x_sub rfl (fr.ev rfl) rfl (i64w (r := (((vals l).length : Nat) : Int) - 1 - ((j + 1 : Nat) : Int)) (by omega) (by omega))) ?_
              clear fr a; intro a fr
              refine fx_val (v := .int .i64 ((((vals l).length : Nat) : Int) - 1 - ((j + 1 : Nat) : Int))) fr rfl rfl (by first | decide | simp) (x_assign rfl (fr.ev rfl)) ?_
              clear fr a; intro a fr
              refine wpList_nil ?_
              refine fx_next ?_
              exact ⟨_, by omega, (j + 1), rfl, fr.sub ⟨rfl, rfl, rfl, rfl, trivial⟩, hF, hV, by omega, (by rw [rev_take (by omega)]; exact fno_step hno (by rw [← hxe]; exact hacc.2.2 (by omega) (by omega)))⟩
      · skip
        have hc6 := of_decide_eq_false hc6
        refine wp_exit ?_
        refine fx_xt ?_
        refine fx_xt ?_
        refine fx_xx ?_
        refine fx_next ?_
        refine wp_seq ?_
        refine wp_region_lit ?_  -- region 18
        refine fx_val (v := .int .u32 0) fr rfl rfl (by first | decide | simp) (x_assign rfl rfl) ?_
        clear fr a; intro a fr
        refine fx_val (v := .int .i64 0) fr rfl rfl (by first | decide | simp) (x_assign rfl rfl) ?_
        clear fr a; intro a fr
        refine wpList_nil ?_
        refine fx_next ?_
        refine wp_ret ?_
        refine fx_ret fr [.tmp 6, .tmp 7] [.int .u32 0, .int .i64 0] rfl ⟨rfl, rfl, trivial⟩ rfl ?_
        have hf : fwd l addr wide = (0, 0) := by unfold fwd; rw [if_pos ⟨by rw [hq]; rfl, by rw [hq]; omega⟩]; rw [show j = l.length by omega, List.take_of_length_le (by simp)] at hno; exact fdone hno
        rw [hf]
        exact ⟨_, rfl, rfl, hF⟩
  · skip
    refine wp_region_lit ?_  -- region 1
    refine fx_val (v := .int .i64 wide) fr rfl rfl (by first | decide | simp) (x_move rfl (fr.ev rfl)) ?_
    clear fr a; intro a fr
    refine fx_call fr rfl rfl (by first | decide | simp) (x_call (vs := [.int .i64 wide]) rfl rfl ⟨(fr.ev rfl), trivial⟩ Try.func32 nm32 rfl) (rwide_c wide _) ?_
    clear fr a
    rintro v w9 ⟨rfl, hw9⟩ a fr
    obtain rfl := hw9.symm
    rw [show wOk wide = true from (by first | rfl | (rw [show wide = 2 by omega]; rfl))] at fr
    refine fx_val (v := .bool false) fr rfl rfl (by first | decide | simp) (x_not rfl (fr.ev rfl) rfl) ?_
    clear fr a; intro a fr
    refine fx_val (v := .bool false) fr rfl rfl (by first | decide | simp) (x_move rfl (fr.ev rfl)) ?_
    clear fr a; intro a fr
    refine fx_val (v := .int .u32 addr) fr (fr.want rfl rfl rfl) rfl (by first | decide | simp) (x_move rfl (fr.ev rfl)) ?_
    clear fr a; intro a fr
    refine fx_val (v := .int .i64 addr) fr (fr.want rfl rfl rfl) rfl (by first | decide | simp) (x_convert Try.underlying22 Try.underlying2 rfl (fr.ev rfl) (i64w (r := addr) rfl (by omega))) ?_
    clear fr a; intro a fr
    refine fx_val (v := .int .i64 wide) fr (fr.want rfl rfl rfl) rfl (by first | decide | simp) (x_move rfl (fr.ev rfl)) ?_
    clear fr a; intro a fr
    refine fx_val (v := .int .i64 (addr % 2)) fr (fr.want rfl rfl rfl) rfl (by first | decide | simp) (x_rem rfl (fr.ev rfl) (fr.ev rfl) (by omega) (r := addr % 2) (by first | exact rem_nn (by omega) | (rw [show wide = 2 by omega]; exact rem_nn (by omega)))) ?_
    clear fr a; intro a fr
    refine fx_val (v := .bool (decide (addr % 2 ≠ 0))) fr (fr.want rfl rfl rfl) rfl (by first | decide | simp) (x_neq rfl (fr.ev rfl) rfl rfl) ?_
    clear fr a; intro a fr
    refine fx_val (v := .bool (decide (addr % 2 ≠ 0))) fr rfl rfl (by first | decide | simp) (x_pick_f rfl (fr.ev rfl) (fr.ev rfl)) ?_
    clear fr a; intro a fr
    refine wpList_nil ?_
    refine fx_next ?_
    refine fx_cond fr rfl (fun hc20 => ?_) (fun hc20 => ?_)
    · skip
      have hc20 := of_decide_eq_true hc20
      refine wp_seq ?_
      refine wp_region_lit ?_  -- region 2
      refine fx_val (v := .int .u32 0) fr rfl rfl (by first | decide | simp) (x_assign rfl rfl) ?_
      clear fr a; intro a fr
      refine fx_val (v := .int .i64 0) fr rfl rfl (by first | decide | simp) (x_assign rfl rfl) ?_
      clear fr a; intro a fr
      refine wpList_nil ?_
      refine fx_next ?_
      refine wp_ret ?_
      refine fx_rt ?_
      refine fx_ret fr [.tmp 6, .tmp 7] [.int .u32 0, .int .i64 0] rfl ⟨rfl, rfl, trivial⟩ rfl ?_
      have hf : fwd l addr wide = (0, 0) := by unfold fwd; rw [if_neg (fun h => by have := h.2; rw [hq] at this; omega)]
      rw [hf]
      exact ⟨_, rfl, rfl, hF⟩
    · skip
      have hc20 := of_decide_eq_false hc20
      refine wp_skip ?_
      refine fx_next ?_
      refine wp_seq ?_
      refine wp_seq ?_
      refine wp_region_lit ?_  -- region 3
      refine fx_val (v := .slice A ((vals l).length) cap) fr rfl rfl (by first | decide | simp) (x_move rfl (fr.ev rfl)) ?_
      clear fr a; intro a fr
      refine fx_val (v := .int .i64 (((vals l).length : Nat) : Int)) fr rfl rfl (by first | decide | simp) (x_len Try.underlying32 rfl (fr.ev rfl)) ?_
      clear fr a; intro a fr
      refine fx_val (v := .int .i64 ((((vals l).length : Nat) : Int) - 1)) fr rfl rfl (by first | decide | simp) (x_sub rfl (fr.ev rfl) rfl (i64w (r := (((vals l).length : Nat) : Int) - 1) (by omega) (by omega))) ?_
      clear fr a; intro a fr
      refine fx_val (v := .int .i64 ((((vals l).length : Nat) : Int) - 1)) fr rfl rfl (by first | decide | simp) (x_assign rfl (fr.ev rfl)) ?_
      clear fr a; intro a fr
      refine wpList_nil ?_
      refine fx_next ?_
      refine wp_block ?_
      rw [show (((vals l).length : Nat) : Int) - 1 = (((vals l).length : Nat) : Int) - 1 - ((0 : Nat) : Int) by simp] at fr
      refine fx_loop (fun nM a wL => ∃ j : Nat, nM = l.length - j ∧ Fr (60, []) [(0, .slice A ((vals l).length) cap), (1, .int .u32 addr), (2, .int .i64 wide), (8, .int .i64 ((((vals l).length : Nat) : Int) - 1 - ((j : Nat) : Int)))] a ∧ Only (fun _ => False) w wL ∧ View stE wL A cap (vals l) ∧ j ≤ l.length ∧ ∀ y ∈ l.reverse.take j, fwd1 addr wide y.1 = none) (n0 := _) ⟨0, rfl, fr.sub ⟨rfl, rfl, rfl, rfl, trivial⟩, hF, hV, by omega, (fun y hy => by simp at hy)⟩ ?_
      rintro n22 a w21 ⟨j, rfl, fr, hF, hV, hj, hno⟩
      refine wp_seq ?_
      refine wp_seq ?_
      refine wp_region_lit ?_  -- region 4
      refine fx_val (v := .int .i64 ((((vals l).length : Nat) : Int) - 1 - ((j : Nat) : Int))) fr rfl rfl (by first | decide | simp) (x_move rfl (fr.ev rfl)) ?_
      clear fr a; intro a fr
      refine fx_val (v := .bool (decide (0 ≤ (((vals l).length : Nat) : Int) - 1 - ((j : Nat) : Int)))) fr rfl rfl (by first | decide | simp) (x_geq rfl (fr.ev rfl) rfl rfl) ?_
      clear fr a; intro a fr
      refine wpList_nil ?_
      refine fx_next ?_
      refine fx_cond fr rfl (fun hc23 => ?_) (fun hc23 => ?_)
      · skip
        have hc23 := of_decide_eq_true hc23
        refine wp_skip ?_
        refine fx_next ?_
        refine wp_seq ?_
        refine wp_block ?_
        refine wp_seq ?_
        rw [show (((vals l).length : Nat) : Int) - 1 - ((j : Nat) : Int) = (((vals l).length - 1 - j : Nat) : Int) by omega] at fr
        have hxe : ((vals l).getD ((vals l).length - 1 - j) st0) = (l.getD (l.length - 1 - j) v0).1 := by rw [hvl]; exact vals_at l _ (by omega)
        have hacc := acc_one (l.getD (l.length - 1 - j) v0) (a := addr) (w := wide) (by omega)
        rw [← hxe] at hacc
        refine wp_region_lit ?_  -- region 6
        refine fx_val (v := .int .u32 0) fr rfl rfl (by first | decide | simp) (x_assign rfl rfl) ?_
        clear fr a; intro a fr
        refine fx_val (v := .int .i64 0) fr rfl rfl (by first | decide | simp) (x_assign rfl rfl) ?_
        clear fr a; intro a fr
        refine wpList_nil ?_
        refine fx_next ?_
        refine wp_seq ?_
        refine wp_seq ?_
        refine wp_region_lit ?_  -- region 7
        refine fx_val (v := .int .i64 wide) fr rfl rfl (by first | decide | simp) (x_move rfl (fr.ev rfl)) ?_
        clear fr a; intro a fr
        refine fx_val (v := .int .i64 (wide - 1)) fr rfl rfl (by first | decide | simp) (x_sub rfl (fr.ev rfl) rfl (i64w (r := wide - 1) (by omega) (by omega))) ?_
        clear fr a; intro a fr
        refine fx_val (v := .int .i64 (wide - 1)) fr rfl rfl (by first | decide | simp) (x_assign rfl (fr.ev rfl)) ?_
        clear fr a; intro a fr
        refine wpList_nil ?_
        refine fx_next ?_
        refine wp_block ?_
        rw [show wide - 1 = wide - 1 - ((0 : Nat) : Int) by simp] at fr
        refine fx_loop (fun nM a wL => ∃ q : Nat, nM = wide.toNat - q ∧ Fr (60, []) [(0, .slice A ((vals l).length) cap), (1, .int .u32 addr), (2, .int .i64 wide), (8, .int .i64 (((vals l).length - 1 - j : Nat) : Int)), (9, .int .u32 ((accF ((vals l).getD ((vals l).length - 1 - j) st0) addr wide q).1)), (10, .int .i64 ((accF ((vals l).getD ((vals l).length - 1 - j) st0) addr wide q).2)), (11, .int .i64 (wide - 1 - ((q : Nat) : Int)))] a ∧ Only (fun _ => False) w wL ∧ View stE wL A cap (vals l) ∧ ((q : Nat) : Int) ≤ wide) (n0 := _) ⟨0, rfl, fr.sub ⟨rfl, rfl, rfl, rfl, rfl, rfl, rfl, trivial⟩, hF, hV, by omega⟩ ?_
        rintro n25 a w24 ⟨q, rfl, fr, hF, hV, hqw0⟩
        have hbd := hasB_bd ((vals l).getD ((vals l).length - 1 - j) st0) (addr + (wide - 1 - ((q : Nat) : Int)))
        refine wp_seq ?_
        refine wp_seq ?_
        refine wp_region_lit ?_  -- region 8
        refine fx_val (v := .int .i64 (wide - 1 - ((q : Nat) : Int))) fr rfl rfl (by first | decide | simp) (x_move rfl (fr.ev rfl)) ?_
        clear fr a; intro a fr
        refine fx_val (v := .bool (decide (0 ≤ wide - 1 - ((q : Nat) : Int)))) fr rfl rfl (by first | decide | simp) (x_geq rfl (fr.ev rfl) rfl rfl) ?_
        clear fr a; intro a fr
        refine wpList_nil ?_
        refine fx_next ?_
        refine fx_cond fr rfl (fun hc26 => ?_) (fun hc26 => ?_)
        · skip
          have hc26 := of_decide_eq_true hc26
          refine wp_skip ?_
          refine fx_next ?_
          refine wp_seq ?_
          refine wp_block ?_
          refine wp_seq ?_
          have hac := accF_bd3 (q := q) ((vals l).getD ((vals l).length - 1 - j) st0) addr wide (by omega)
          refine wp_region_lit ?_  -- region 10
          refine fx_val (v := .slice A ((vals l).length) cap) fr rfl rfl (by first | decide | simp) (x_move rfl (fr.ev rfl)) ?_
          clear fr a; intro a fr
          refine fx_val (v := .int .i64 (((vals l).length - 1 - j : Nat) : Int)) fr rfl rfl (by first | decide | simp) (x_move rfl (fr.ev rfl)) ?_
          clear fr a; intro a fr
          obtain ⟨g27, o28, hA29⟩ := (hV).some_ (by omega)
          refine fx_val (v := .pointer (some ⟨g27, o28 + ((vals l).length - 1 - j) * 3, none⟩)) fr rfl rfl (by first | decide | simp) (x_indexV Try.underlying32 sz24 rfl (fr.ev rfl) hA29 (fr.ev rfl) (by omega) rfl) ?_
          clear fr a; intro a fr
          refine fx_val (v := .agg (stE.arr ((vals l).getD ((vals l).length - 1 - j) st0))) fr rfl rfl (by first | decide | simp) (x_loadE (E := stE) ag24 rfl rfl (fr.ev rfl) ((hV).elem hA29 ((vals l).length - 1 - j) st0 (by omega))) ?_
          clear fr a; intro a fr
          refine fx_val (v := .int .u32 addr) fr rfl rfl (by first | decide | simp) (x_move rfl (fr.ev rfl)) ?_
          clear fr a; intro a fr
          refine fx_val (v := .int .i64 addr) fr rfl rfl (by first | decide | simp) (x_convert Try.underlying22 Try.underlying2 rfl (fr.ev rfl) (i64w (r := addr) rfl (by omega))) ?_
          clear fr a; intro a fr
          refine fx_val (v := .int .i64 (wide - 1 - ((q : Nat) : Int))) fr rfl rfl (by first | decide | simp) (x_move rfl (fr.ev rfl)) ?_
          clear fr a; intro a fr
          refine fx_val (v := .int .i64 (addr + (wide - 1 - ((q : Nat) : Int)))) fr rfl rfl (by first | decide | simp) (x_add rfl (fr.ev rfl) (fr.ev rfl) (i64w (r := addr + (wide - 1 - ((q : Nat) : Int))) (by omega) (by omega))) ?_
          clear fr a; intro a fr
          refine fx_call fr rfl rfl (by first | decide | simp) (x_call (vs := [.agg (stE.arr ((vals l).getD ((vals l).length - 1 - j) st0)), .int .i64 (addr + (wide - 1 - ((q : Nat) : Int)))]) rfl rfl ⟨(fr.ev rfl), (fr.ev rfl), trivial⟩ Try.func33 nm33 rfl) (has_c ((vals l).getD ((vals l).length - 1 - j) st0) (addr + (wide - 1 - ((q : Nat) : Int))) _ (by omega)) ?_
          clear fr a
          rintro v w30 ⟨rfl, hN31⟩ a fr
          replace hV := hV.new hN31
          replace hF := hF.trNew hN31
          refine fx_val (v := .int .i64 (hasB ((vals l).getD ((vals l).length - 1 - j) st0) (addr + (wide - 1 - ((q : Nat) : Int))))) fr rfl rfl (by first | decide | simp) (x_assign rfl (fr.ev rfl)) ?_
          clear fr a; intro a fr
          refine wpList_nil ?_
          refine fx_next ?_
          refine wp_seq ?_
          refine wp_region_lit ?_  -- region 11
          refine fx_val (v := .int .i64 (hasB ((vals l).getD ((vals l).length - 1 - j) st0) (addr + (wide - 1 - ((q : Nat) : Int))))) fr rfl rfl (by first | decide | simp) (x_move rfl (fr.ev rfl)) ?_
          clear fr a; intro a fr
          refine fx_val (v := .bool (decide (0 ≤ hasB ((vals l).getD ((vals l).length - 1 - j) st0) (addr + (wide - 1 - ((q : Nat) : Int)))))) fr rfl rfl (by first | decide | simp) (x_geq rfl (fr.ev rfl) rfl rfl) ?_
          clear fr a; intro a fr
          refine wpList_nil ?_
          refine fx_next ?_
          refine fx_cond fr rfl (fun hc32 => ?_) (fun hc32 => ?_)
          · skip
            have hc32 := of_decide_eq_true hc32
            refine wp_seq ?_
            refine wp_region_lit ?_  -- region 12
            refine fx_val (v := .int .i64 ((accF ((vals l).getD ((vals l).length - 1 - j) st0) addr wide q).2)) fr rfl rfl (by first | decide | simp) (x_move rfl (fr.ev rfl)) ?_
            clear fr a; intro a fr
            refine fx_val (v := .int .i64 ((accF ((vals l).getD ((vals l).length - 1 - j) st0) addr wide q).2 + 1)) fr rfl rfl (by first | decide | simp) (x_add rfl (fr.ev rfl) rfl (i64w (r := (accF ((vals l).getD ((vals l).length - 1 - j) st0) addr wide q).2 + 1) (by omega) (by omega))) ?_
            clear fr a; intro a fr
            refine fx_val (v := .int .i64 ((accF ((vals l).getD ((vals l).length - 1 - j) st0) addr wide q).2 + 1)) fr rfl rfl (by first | decide | simp) (x_assign rfl (fr.ev rfl)) ?_
            clear fr a; intro a fr
            refine wpList_nil ?_
            refine fx_next ?_
            refine wp_region_lit ?_  -- region 13
            refine fx_val (v := .int .u32 ((accF ((vals l).getD ((vals l).length - 1 - j) st0) addr wide q).1)) fr rfl rfl (by first | decide | simp) (x_move rfl (fr.ev rfl)) ?_
            clear fr a; intro a fr
            refine fx_val (v := .int .u32 (((accF ((vals l).getD ((vals l).length - 1 - j) st0) addr wide q).1) * 256)) fr rfl rfl (by first | decide | simp) (x_mul rfl (fr.ev rfl) rfl (u32w (r := ((accF ((vals l).getD ((vals l).length - 1 - j) st0) addr wide q).1) * 256) rfl (by omega))) ?_
            clear fr a; intro a fr
            refine fx_val (v := .int .i64 (hasB ((vals l).getD ((vals l).length - 1 - j) st0) (addr + (wide - 1 - ((q : Nat) : Int))))) fr rfl rfl (by first | decide | simp) (x_move rfl (fr.ev rfl)) ?_
            clear fr a; intro a fr
            refine fx_val (v := .int .u32 (hasB ((vals l).getD ((vals l).length - 1 - j) st0) (addr + (wide - 1 - ((q : Nat) : Int))))) fr rfl rfl (by first | decide | simp) (x_convert Try.underlying3 Try.underlying22 rfl (fr.ev rfl) (u32w (r := hasB ((vals l).getD ((vals l).length - 1 - j) st0) (addr + (wide - 1 - ((q : Nat) : Int)))) rfl (by omega))) ?_
            clear fr a; intro a fr
            refine fx_val (v := .int .u32 (((accF ((vals l).getD ((vals l).length - 1 - j) st0) addr wide q).1) * 256 + (hasB ((vals l).getD ((vals l).length - 1 - j) st0) (addr + (wide - 1 - ((q : Nat) : Int)))))) fr rfl rfl (by first | decide | simp) (x_add rfl (fr.ev rfl) (fr.ev rfl) (u32w (r := ((accF ((vals l).getD ((vals l).length - 1 - j) st0) addr wide q).1) * 256 + (hasB ((vals l).getD ((vals l).length - 1 - j) st0) (addr + (wide - 1 - ((q : Nat) : Int))))) rfl (by omega))) ?_
            clear fr a; intro a fr
            refine fx_val (v := .int .u32 (((accF ((vals l).getD ((vals l).length - 1 - j) st0) addr wide q).1) * 256 + (hasB ((vals l).getD ((vals l).length - 1 - j) st0) (addr + (wide - 1 - ((q : Nat) : Int)))))) fr rfl rfl (by first | decide | simp) (x_assign rfl (fr.ev rfl)) ?_
            clear fr a; intro a fr
            refine wpList_nil ?_
            refine fx_blk ?_
            refine fx_next ?_
            refine wp_region_lit ?_  -- region 9
            refine fx_val (v := .int .i64 (wide - 1 - ((q : Nat) : Int))) fr rfl rfl (by first | decide | simp) (x_move rfl (fr.ev rfl)) ?_
            clear fr a; intro a fr
            refine fx_val (v := .int .i64 (wide - 1 - ((q + 1 : Nat) : Int))) fr rfl rfl (by first | decide | simp) (x_sub rfl (fr.ev rfl) rfl (i64w (r := wide - 1 - ((q + 1 : Nat) : Int)) (by omega) (by omega))) ?_
            clear fr a; intro a fr
            refine fx_val (v := .int .i64 (wide - 1 - ((q + 1 : Nat) : Int))) fr rfl rfl (by first | decide | simp) (x_assign rfl (fr.ev rfl)) ?_
            clear fr a; intro a fr
            refine wpList_nil ?_
            refine fx_next ?_
            rw [← (accF_yes hc32).1, ← (accF_yes hc32).2] at fr
            exact ⟨_, by omega, (q + 1), rfl, fr.sub ⟨rfl, rfl, rfl, rfl, rfl, rfl, rfl, trivial⟩, hF, hV, by omega⟩
          · skip
            have hc32 := of_decide_eq_false hc32
            refine wp_skip ?_
            refine fx_blk ?_
            refine fx_next ?_
            refine wp_region_lit ?_  -- region 9
            refine fx_val (v := .int .i64 (wide - 1 - ((q : Nat) : Int))) fr rfl rfl (by first | decide | simp) (x_move rfl (fr.ev rfl)) ?_
            clear fr a; intro a fr
            refine fx_val (v := .int .i64 (wide - 1 - ((q + 1 : Nat) : Int))) fr rfl rfl (by first | decide | simp) (x_sub rfl (fr.ev rfl) rfl (i64w (r := wide - 1 - ((q + 1 : Nat) : Int)) (by omega) (by omega))) ?_
            clear fr a; intro a fr
            refine fx_val (v := .int .i64 (wide - 1 - ((q + 1 : Nat) : Int))) fr rfl rfl (by first | decide | simp) (x_assign rfl (fr.ev rfl)) ?_
            clear fr a; intro a fr
            refine wpList_nil ?_
            refine fx_next ?_
            rw [← accF_no hc32] at fr
            exact ⟨_, by omega, (q + 1), rfl, fr.sub ⟨rfl, rfl, rfl, rfl, rfl, rfl, rfl, trivial⟩, hF, hV, by omega⟩
        · skip
          have hc26 := of_decide_eq_false hc26
          refine wp_exit ?_
          refine fx_xt ?_
          refine fx_xt ?_
          refine fx_xx ?_
          refine fx_next ?_
          refine wp_seq ?_
          refine wp_seq ?_
          have hqw : wide.toNat = q := by omega
          rw [hqw] at hacc
          refine wp_region_lit ?_  -- region 14
          refine fx_val (v := .int .i64 ((accF ((vals l).getD ((vals l).length - 1 - j) st0) addr wide q).2)) fr rfl rfl (by first | decide | simp) (x_move rfl (fr.ev rfl)) ?_
          clear fr a; intro a fr
          refine fx_val (v := .int .i64 wide) fr rfl rfl (by first | decide | simp) (x_move rfl (fr.ev rfl)) ?_
          clear fr a; intro a fr
          refine fx_val (v := .bool (decide ((accF ((vals l).getD ((vals l).length - 1 - j) st0) addr wide q).2 = wide))) fr rfl rfl (by first | decide | simp) (x_eql rfl (fr.ev rfl) (fr.ev rfl) rfl) ?_
          clear fr a; intro a fr
          refine wpList_nil ?_
          refine fx_next ?_
          refine fx_cond fr rfl (fun hc33 => ?_) (fun hc33 => ?_)
          · skip
            have hc33 := of_decide_eq_true hc33
            refine wp_seq ?_
            refine wp_region_lit ?_  -- region 15
            refine fx_val (v := .int .u32 ((accF ((vals l).getD ((vals l).length - 1 - j) st0) addr wide q).1)) fr rfl rfl (by first | decide | simp) (x_move rfl (fr.ev rfl)) ?_
            clear fr a; intro a fr
            refine fx_val (v := .int .u32 ((accF ((vals l).getD ((vals l).length - 1 - j) st0) addr wide q).1)) fr rfl rfl (by first | decide | simp) (x_assign rfl (fr.ev rfl)) ?_
            clear fr a; intro a fr
            refine fx_val (v := .int .i64 1) fr rfl rfl (by first | decide | simp) (x_assign rfl rfl) ?_
            clear fr a; intro a fr
            refine wpList_nil ?_
            refine fx_next ?_
            refine wp_ret ?_
            refine fx_rt ?_
            refine fx_rb ?_
            refine fx_rt ?_
            refine fx_rt ?_
            refine fx_rb ?_
            refine fx_rt ?_
            refine fx_ret fr [.tmp 6, .tmp 7] [.int .u32 ((accF ((vals l).getD ((vals l).length - 1 - j) st0) addr wide q).1), .int .i64 1] rfl ⟨rfl, rfl, trivial⟩ rfl ?_
            have hf : fwd l addr wide = ((accF ((vals l).getD ((vals l).length - 1 - j) st0) addr wide q).1, 1) := by unfold fwd; rw [if_pos ⟨by rw [hq]; rfl, by rw [hq]; omega⟩]; exact FStop.eq ⟨l.reverse.take j, _, rfl, hno, (by rw [← hxe]; exact hacc.1 (by omega))⟩ (by rw [← rev_take (by omega)]; exact List.take_prefix _ _)
            rw [hf]
            exact ⟨_, rfl, rfl, hF⟩
          · skip
            have hc33 := of_decide_eq_false hc33
            refine wp_skip ?_
            refine fx_next ?_
            refine wp_seq ?_
            refine wp_region_lit ?_  -- region 16
            refine fx_val (v := .int .i64 ((accF ((vals l).getD ((vals l).length - 1 - j) st0) addr wide q).2)) fr rfl rfl (by first | decide | simp) (x_move rfl (fr.ev rfl)) ?_
            clear fr a; intro a fr
            refine fx_val (v := .bool (decide (0 < (accF ((vals l).getD ((vals l).length - 1 - j) st0) addr wide q).2))) fr rfl rfl (by first | decide | simp) (x_gtr rfl (fr.ev rfl) rfl rfl) ?_
            clear fr a; intro a fr
            refine wpList_nil ?_
            refine fx_next ?_
            refine fx_cond fr rfl (fun hc34 => ?_) (fun hc34 => ?_)
            · skip
              have hc34 := of_decide_eq_true hc34
              refine wp_seq ?_
              refine wp_region_lit ?_  -- region 17
              refine fx_val (v := .int .u32 0) fr rfl rfl (by first | decide | simp) (x_assign rfl rfl) ?_
              clear fr a; intro a fr
              refine fx_val (v := .int .i64 2) fr rfl rfl (by first | decide | simp) (x_assign rfl rfl) ?_
              clear fr a; intro a fr
              refine wpList_nil ?_
              refine fx_next ?_
              refine wp_ret ?_
              refine fx_rb ?_
              refine fx_rt ?_
              refine fx_rt ?_
              refine fx_rb ?_
              refine fx_rt ?_
              refine fx_ret fr [.tmp 6, .tmp 7] [.int .u32 0, .int .i64 2] rfl ⟨rfl, rfl, trivial⟩ rfl ?_
              have hf : fwd l addr wide = (0, 2) := by unfold fwd; rw [if_pos ⟨by rw [hq]; rfl, by rw [hq]; omega⟩]; exact FStop.eq ⟨l.reverse.take j, _, rfl, hno, (by rw [← hxe]; exact hacc.2.1 (by omega) (by omega))⟩ (by rw [← rev_take (by omega)]; exact List.take_prefix _ _)
              rw [hf]
              exact ⟨_, rfl, rfl, hF⟩
            · skip
              have hc34 := of_decide_eq_false hc34
              refine wp_skip ?_
              refine fx_blk ?_
              refine fx_next ?_
              rw [show (((vals l).length - 1 - j : Nat) : Int) = (((vals l).length : Nat) : Int) - 1 - ((j : Nat) : Int) by omega] at fr
              refine wp_region_lit ?_  -- region 5
              refine fx_val (v := .int .i64 ((((vals l).length : Nat) : Int) - 1 - ((j : Nat) : Int))) fr rfl rfl (by first | decide | simp) (x_move rfl (fr.ev rfl)) ?_
              clear fr a; intro a fr
              refine fx_val (v := .int .i64 ((((vals l).length : Nat) : Int) - 1 - ((j + 1 : Nat) : Int))) fr rfl rfl (by first | decide | simp) (x_sub rfl (fr.ev rfl) rfl (i64w (r := (((vals l).length : Nat) : Int) - 1 - ((j + 1 : Nat) : Int)) (by omega) (by omega))) ?_
              clear fr a; intro a fr
              refine fx_val (v := .int .i64 ((((vals l).length : Nat) : Int) - 1 - ((j + 1 : Nat) : Int))) fr rfl rfl (by first | decide | simp) (x_assign rfl (fr.ev rfl)) ?_
              clear fr a; intro a fr
              refine wpList_nil ?_
              refine fx_next ?_
              exact ⟨_, by omega, (j + 1), rfl, fr.sub ⟨rfl, rfl, rfl, rfl, trivial⟩, hF, hV, by omega, (by rw [rev_take (by omega)]; exact fno_step hno (by rw [← hxe]; exact hacc.2.2 (by omega) (by omega)))⟩
      · skip
        have hc23 := of_decide_eq_false hc23
        refine wp_exit ?_
        refine fx_xt ?_
        refine fx_xt ?_
        refine fx_xx ?_
        refine fx_next ?_
        refine wp_seq ?_
        refine wp_region_lit ?_  -- region 18
        refine fx_val (v := .int .u32 0) fr rfl rfl (by first | decide | simp) (x_assign rfl rfl) ?_
        clear fr a; intro a fr
        refine fx_val (v := .int .i64 0) fr rfl rfl (by first | decide | simp) (x_assign rfl rfl) ?_
        clear fr a; intro a fr
        refine wpList_nil ?_
        refine fx_next ?_
        refine wp_ret ?_
        refine fx_ret fr [.tmp 6, .tmp 7] [.int .u32 0, .int .i64 0] rfl ⟨rfl, rfl, trivial⟩ rfl ?_
        have hf : fwd l addr wide = (0, 0) := by unfold fwd; rw [if_pos ⟨by rw [hq]; rfl, by rw [hq]; omega⟩]; rw [show j = l.length by omega, List.take_of_length_le (by simp)] at hno; exact fdone hno
        rw [hf]
        exact ⟨_, rfl, rfl, hF⟩
  · skip
    refine wp_region_lit ?_  -- region 1
    refine fx_val (v := .int .i64 wide) fr rfl rfl (by first | decide | simp) (x_move rfl (fr.ev rfl)) ?_
    clear fr a; intro a fr
    refine fx_call fr rfl rfl (by first | decide | simp) (x_call (vs := [.int .i64 wide]) rfl rfl ⟨(fr.ev rfl), trivial⟩ Try.func32 nm32 rfl) (rwide_c wide _) ?_
    clear fr a
    rintro v w9 ⟨rfl, hw9⟩ a fr
    obtain rfl := hw9.symm
    rw [show wOk wide = true from (by first | rfl | (rw [show wide = 4 by omega]; rfl))] at fr
    refine fx_val (v := .bool false) fr rfl rfl (by first | decide | simp) (x_not rfl (fr.ev rfl) rfl) ?_
    clear fr a; intro a fr
    refine fx_val (v := .bool false) fr rfl rfl (by first | decide | simp) (x_move rfl (fr.ev rfl)) ?_
    clear fr a; intro a fr
    refine fx_val (v := .int .u32 addr) fr (fr.want rfl rfl rfl) rfl (by first | decide | simp) (x_move rfl (fr.ev rfl)) ?_
    clear fr a; intro a fr
    refine fx_val (v := .int .i64 addr) fr (fr.want rfl rfl rfl) rfl (by first | decide | simp) (x_convert Try.underlying22 Try.underlying2 rfl (fr.ev rfl) (i64w (r := addr) rfl (by omega))) ?_
    clear fr a; intro a fr
    refine fx_val (v := .int .i64 wide) fr (fr.want rfl rfl rfl) rfl (by first | decide | simp) (x_move rfl (fr.ev rfl)) ?_
    clear fr a; intro a fr
    refine fx_val (v := .int .i64 (addr % 4)) fr (fr.want rfl rfl rfl) rfl (by first | decide | simp) (x_rem rfl (fr.ev rfl) (fr.ev rfl) (by omega) (r := addr % 4) (by first | exact rem_nn (by omega) | (rw [show wide = 4 by omega]; exact rem_nn (by omega)))) ?_
    clear fr a; intro a fr
    refine fx_val (v := .bool (decide (addr % 4 ≠ 0))) fr (fr.want rfl rfl rfl) rfl (by first | decide | simp) (x_neq rfl (fr.ev rfl) rfl rfl) ?_
    clear fr a; intro a fr
    refine fx_val (v := .bool (decide (addr % 4 ≠ 0))) fr rfl rfl (by first | decide | simp) (x_pick_f rfl (fr.ev rfl) (fr.ev rfl)) ?_
    clear fr a; intro a fr
    refine wpList_nil ?_
    refine fx_next ?_
    refine fx_cond fr rfl (fun hc37 => ?_) (fun hc37 => ?_)
    · skip
      have hc37 := of_decide_eq_true hc37
      refine wp_seq ?_
      refine wp_region_lit ?_  -- region 2
      refine fx_val (v := .int .u32 0) fr rfl rfl (by first | decide | simp) (x_assign rfl rfl) ?_
      clear fr a; intro a fr
      refine fx_val (v := .int .i64 0) fr rfl rfl (by first | decide | simp) (x_assign rfl rfl) ?_
      clear fr a; intro a fr
      refine wpList_nil ?_
      refine fx_next ?_
      refine wp_ret ?_
      refine fx_rt ?_
      refine fx_ret fr [.tmp 6, .tmp 7] [.int .u32 0, .int .i64 0] rfl ⟨rfl, rfl, trivial⟩ rfl ?_
      have hf : fwd l addr wide = (0, 0) := by unfold fwd; rw [if_neg (fun h => by have := h.2; rw [hq] at this; omega)]
      rw [hf]
      exact ⟨_, rfl, rfl, hF⟩
    · skip
      have hc37 := of_decide_eq_false hc37
      refine wp_skip ?_
      refine fx_next ?_
      refine wp_seq ?_
      refine wp_seq ?_
      refine wp_region_lit ?_  -- region 3
      refine fx_val (v := .slice A ((vals l).length) cap) fr rfl rfl (by first | decide | simp) (x_move rfl (fr.ev rfl)) ?_
      clear fr a; intro a fr
      refine fx_val (v := .int .i64 (((vals l).length : Nat) : Int)) fr rfl rfl (by first | decide | simp) (x_len Try.underlying32 rfl (fr.ev rfl)) ?_
      clear fr a; intro a fr
      refine fx_val (v := .int .i64 ((((vals l).length : Nat) : Int) - 1)) fr rfl rfl (by first | decide | simp) (x_sub rfl (fr.ev rfl) rfl (i64w (r := (((vals l).length : Nat) : Int) - 1) (by omega) (by omega))) ?_
      clear fr a; intro a fr
      refine fx_val (v := .int .i64 ((((vals l).length : Nat) : Int) - 1)) fr rfl rfl (by first | decide | simp) (x_assign rfl (fr.ev rfl)) ?_
      clear fr a; intro a fr
      refine wpList_nil ?_
      refine fx_next ?_
      refine wp_block ?_
      rw [show (((vals l).length : Nat) : Int) - 1 = (((vals l).length : Nat) : Int) - 1 - ((0 : Nat) : Int) by simp] at fr
      refine fx_loop (fun nM a wL => ∃ j : Nat, nM = l.length - j ∧ Fr (60, []) [(0, .slice A ((vals l).length) cap), (1, .int .u32 addr), (2, .int .i64 wide), (8, .int .i64 ((((vals l).length : Nat) : Int) - 1 - ((j : Nat) : Int)))] a ∧ Only (fun _ => False) w wL ∧ View stE wL A cap (vals l) ∧ j ≤ l.length ∧ ∀ y ∈ l.reverse.take j, fwd1 addr wide y.1 = none) (n0 := _) ⟨0, rfl, fr.sub ⟨rfl, rfl, rfl, rfl, trivial⟩, hF, hV, by omega, (fun y hy => by simp at hy)⟩ ?_
      rintro n39 a w38 ⟨j, rfl, fr, hF, hV, hj, hno⟩
      refine wp_seq ?_
      refine wp_seq ?_
      refine wp_region_lit ?_  -- region 4
      refine fx_val (v := .int .i64 ((((vals l).length : Nat) : Int) - 1 - ((j : Nat) : Int))) fr rfl rfl (by first | decide | simp) (x_move rfl (fr.ev rfl)) ?_
      clear fr a; intro a fr
      refine fx_val (v := .bool (decide (0 ≤ (((vals l).length : Nat) : Int) - 1 - ((j : Nat) : Int)))) fr rfl rfl (by first | decide | simp) (x_geq rfl (fr.ev rfl) rfl rfl) ?_
      clear fr a; intro a fr
      refine wpList_nil ?_
      refine fx_next ?_
      refine fx_cond fr rfl (fun hc40 => ?_) (fun hc40 => ?_)
      · skip
        have hc40 := of_decide_eq_true hc40
        refine wp_skip ?_
        refine fx_next ?_
        refine wp_seq ?_
        refine wp_block ?_
        refine wp_seq ?_
        rw [show (((vals l).length : Nat) : Int) - 1 - ((j : Nat) : Int) = (((vals l).length - 1 - j : Nat) : Int) by omega] at fr
        have hxe : ((vals l).getD ((vals l).length - 1 - j) st0) = (l.getD (l.length - 1 - j) v0).1 := by rw [hvl]; exact vals_at l _ (by omega)
        have hacc := acc_one (l.getD (l.length - 1 - j) v0) (a := addr) (w := wide) (by omega)
        rw [← hxe] at hacc
        refine wp_region_lit ?_  -- region 6
        refine fx_val (v := .int .u32 0) fr rfl rfl (by first | decide | simp) (x_assign rfl rfl) ?_
        clear fr a; intro a fr
        refine fx_val (v := .int .i64 0) fr rfl rfl (by first | decide | simp) (x_assign rfl rfl) ?_
        clear fr a; intro a fr
        refine wpList_nil ?_
        refine fx_next ?_
        refine wp_seq ?_
        refine wp_seq ?_
        refine wp_region_lit ?_  -- region 7
        refine fx_val (v := .int .i64 wide) fr rfl rfl (by first | decide | simp) (x_move rfl (fr.ev rfl)) ?_
        clear fr a; intro a fr
        refine fx_val (v := .int .i64 (wide - 1)) fr rfl rfl (by first | decide | simp) (x_sub rfl (fr.ev rfl) rfl (i64w (r := wide - 1) (by omega) (by omega))) ?_
        clear fr a; intro a fr
        refine fx_val (v := .int .i64 (wide - 1)) fr rfl rfl (by first | decide | simp) (x_assign rfl (fr.ev rfl)) ?_
        clear fr a; intro a fr
        refine wpList_nil ?_
        refine fx_next ?_
        refine wp_block ?_
        rw [show wide - 1 = wide - 1 - ((0 : Nat) : Int) by simp] at fr
        refine fx_loop (fun nM a wL => ∃ q : Nat, nM = wide.toNat - q ∧ Fr (60, []) [(0, .slice A ((vals l).length) cap), (1, .int .u32 addr), (2, .int .i64 wide), (8, .int .i64 (((vals l).length - 1 - j : Nat) : Int)), (9, .int .u32 ((accF ((vals l).getD ((vals l).length - 1 - j) st0) addr wide q).1)), (10, .int .i64 ((accF ((vals l).getD ((vals l).length - 1 - j) st0) addr wide q).2)), (11, .int .i64 (wide - 1 - ((q : Nat) : Int)))] a ∧ Only (fun _ => False) w wL ∧ View stE wL A cap (vals l) ∧ ((q : Nat) : Int) ≤ wide) (n0 := _) ⟨0, rfl, fr.sub ⟨rfl, rfl, rfl, rfl, rfl, rfl, rfl, trivial⟩, hF, hV, by omega⟩ ?_
        rintro n42 a w41 ⟨q, rfl, fr, hF, hV, hqw0⟩
        have hbd := hasB_bd ((vals l).getD ((vals l).length - 1 - j) st0) (addr + (wide - 1 - ((q : Nat) : Int)))
        refine wp_seq ?_
        refine wp_seq ?_
        refine wp_region_lit ?_  -- region 8
        refine fx_val (v := .int .i64 (wide - 1 - ((q : Nat) : Int))) fr rfl rfl (by first | decide | simp) (x_move rfl (fr.ev rfl)) ?_
        clear fr a; intro a fr
        refine fx_val (v := .bool (decide (0 ≤ wide - 1 - ((q : Nat) : Int)))) fr rfl rfl (by first | decide | simp) (x_geq rfl (fr.ev rfl) rfl rfl) ?_
        clear fr a; intro a fr
        refine wpList_nil ?_
        refine fx_next ?_
        refine fx_cond fr rfl (fun hc43 => ?_) (fun hc43 => ?_)
        · skip
          have hc43 := of_decide_eq_true hc43
          refine wp_skip ?_
          refine fx_next ?_
          refine wp_seq ?_
          refine wp_block ?_
          refine wp_seq ?_
          have hac := accF_bd3 (q := q) ((vals l).getD ((vals l).length - 1 - j) st0) addr wide (by omega)
          refine wp_region_lit ?_  -- region 10
          refine fx_val (v := .slice A ((vals l).length) cap) fr rfl rfl (by first | decide | simp) (x_move rfl (fr.ev rfl)) ?_
          clear fr a; intro a fr
          refine fx_val (v := .int .i64 (((vals l).length - 1 - j : Nat) : Int)) fr rfl rfl (by first | decide | simp) (x_move rfl (fr.ev rfl)) ?_
          clear fr a; intro a fr
          obtain ⟨g44, o45, hA46⟩ := (hV).some_ (by omega)
          refine fx_val (v := .pointer (some ⟨g44, o45 + ((vals l).length - 1 - j) * 3, none⟩)) fr rfl rfl (by first | decide | simp) (x_indexV Try.underlying32 sz24 rfl (fr.ev rfl) hA46 (fr.ev rfl) (by omega) rfl) ?_
          clear fr a; intro a fr
          refine fx_val (v := .agg (stE.arr ((vals l).getD ((vals l).length - 1 - j) st0))) fr rfl rfl (by first | decide | simp) (x_loadE (E := stE) ag24 rfl rfl (fr.ev rfl) ((hV).elem hA46 ((vals l).length - 1 - j) st0 (by omega))) ?_
          clear fr a; intro a fr
          refine fx_val (v := .int .u32 addr) fr rfl rfl (by first | decide | simp) (x_move rfl (fr.ev rfl)) ?_
          clear fr a; intro a fr
          refine fx_val (v := .int .i64 addr) fr rfl rfl (by first | decide | simp) (x_convert Try.underlying22 Try.underlying2 rfl (fr.ev rfl) (i64w (r := addr) rfl (by omega))) ?_
          clear fr a; intro a fr
          refine fx_val (v := .int .i64 (wide - 1 - ((q : Nat) : Int))) fr rfl rfl (by first | decide | simp) (x_move rfl (fr.ev rfl)) ?_
          clear fr a; intro a fr
          refine fx_val (v := .int .i64 (addr + (wide - 1 - ((q : Nat) : Int)))) fr rfl rfl (by first | decide | simp) (x_add rfl (fr.ev rfl) (fr.ev rfl) (i64w (r := addr + (wide - 1 - ((q : Nat) : Int))) (by omega) (by omega))) ?_
          clear fr a; intro a fr
          refine fx_call fr rfl rfl (by first | decide | simp) (x_call (vs := [.agg (stE.arr ((vals l).getD ((vals l).length - 1 - j) st0)), .int .i64 (addr + (wide - 1 - ((q : Nat) : Int)))]) rfl rfl ⟨(fr.ev rfl), (fr.ev rfl), trivial⟩ Try.func33 nm33 rfl) (has_c ((vals l).getD ((vals l).length - 1 - j) st0) (addr + (wide - 1 - ((q : Nat) : Int))) _ (by omega)) ?_
          clear fr a
          rintro v w47 ⟨rfl, hN48⟩ a fr
          replace hV := hV.new hN48
          replace hF := hF.trNew hN48
          refine fx_val (v := .int .i64 (hasB ((vals l).getD ((vals l).length - 1 - j) st0) (addr + (wide - 1 - ((q : Nat) : Int))))) fr rfl rfl (by first | decide | simp) (x_assign rfl (fr.ev rfl)) ?_
          clear fr a; intro a fr
          refine wpList_nil ?_
          refine fx_next ?_
          refine wp_seq ?_
          refine wp_region_lit ?_  -- region 11
          refine fx_val (v := .int .i64 (hasB ((vals l).getD ((vals l).length - 1 - j) st0) (addr + (wide - 1 - ((q : Nat) : Int))))) fr rfl rfl (by first | decide | simp) (x_move rfl (fr.ev rfl)) ?_
          clear fr a; intro a fr
          refine fx_val (v := .bool (decide (0 ≤ hasB ((vals l).getD ((vals l).length - 1 - j) st0) (addr + (wide - 1 - ((q : Nat) : Int)))))) fr rfl rfl (by first | decide | simp) (x_geq rfl (fr.ev rfl) rfl rfl) ?_
          clear fr a; intro a fr
          refine wpList_nil ?_
          refine fx_next ?_
          refine fx_cond fr rfl (fun hc49 => ?_) (fun hc49 => ?_)
          · skip
            have hc49 := of_decide_eq_true hc49
            refine wp_seq ?_
            refine wp_region_lit ?_  -- region 12
            refine fx_val (v := .int .i64 ((accF ((vals l).getD ((vals l).length - 1 - j) st0) addr wide q).2)) fr rfl rfl (by first | decide | simp) (x_move rfl (fr.ev rfl)) ?_
            clear fr a; intro a fr
            refine fx_val (v := .int .i64 ((accF ((vals l).getD ((vals l).length - 1 - j) st0) addr wide q).2 + 1)) fr rfl rfl (by first | decide | simp) (x_add rfl (fr.ev rfl) rfl (i64w (r := (accF ((vals l).getD ((vals l).length - 1 - j) st0) addr wide q).2 + 1) (by omega) (by omega))) ?_
            clear fr a; intro a fr
            refine fx_val (v := .int .i64 ((accF ((vals l).getD ((vals l).length - 1 - j) st0) addr wide q).2 + 1)) fr rfl rfl (by first | decide | simp) (x_assign rfl (fr.ev rfl)) ?_
            clear fr a; intro a fr
            refine wpList_nil ?_
            refine fx_next ?_
            refine wp_region_lit ?_  -- region 13
            refine fx_val (v := .int .u32 ((accF ((vals l).getD ((vals l).length - 1 - j) st0) addr wide q).1)) fr rfl rfl (by first | decide | simp) (x_move rfl (fr.ev rfl)) ?_
            clear fr a; intro a fr
            refine fx_val (v := .int .u32 (((accF ((vals l).getD ((vals l).length - 1 - j) st0) addr wide q).1) * 256)) fr rfl rfl (by first | decide | simp) (x_mul rfl (fr.ev rfl) rfl (u32w (r := ((accF ((vals l).getD ((vals l).length - 1 - j) st0) addr wide q).1) * 256) rfl (by omega))) ?_
            clear fr a; intro a fr
            refine fx_val (v := .int .i64 (hasB ((vals l).getD ((vals l).length - 1 - j) st0) (addr + (wide - 1 - ((q : Nat) : Int))))) fr rfl rfl (by first | decide | simp) (x_move rfl (fr.ev rfl)) ?_
            clear fr a; intro a fr
            refine fx_val (v := .int .u32 (hasB ((vals l).getD ((vals l).length - 1 - j) st0) (addr + (wide - 1 - ((q : Nat) : Int))))) fr rfl rfl (by first | decide | simp) (x_convert Try.underlying3 Try.underlying22 rfl (fr.ev rfl) (u32w (r := hasB ((vals l).getD ((vals l).length - 1 - j) st0) (addr + (wide - 1 - ((q : Nat) : Int)))) rfl (by omega))) ?_
            clear fr a; intro a fr
            refine fx_val (v := .int .u32 (((accF ((vals l).getD ((vals l).length - 1 - j) st0) addr wide q).1) * 256 + (hasB ((vals l).getD ((vals l).length - 1 - j) st0) (addr + (wide - 1 - ((q : Nat) : Int)))))) fr rfl rfl (by first | decide | simp) (x_add rfl (fr.ev rfl) (fr.ev rfl) (u32w (r := ((accF ((vals l).getD ((vals l).length - 1 - j) st0) addr wide q).1) * 256 + (hasB ((vals l).getD ((vals l).length - 1 - j) st0) (addr + (wide - 1 - ((q : Nat) : Int))))) rfl (by omega))) ?_
            clear fr a; intro a fr
            refine fx_val (v := .int .u32 (((accF ((vals l).getD ((vals l).length - 1 - j) st0) addr wide q).1) * 256 + (hasB ((vals l).getD ((vals l).length - 1 - j) st0) (addr + (wide - 1 - ((q : Nat) : Int)))))) fr rfl rfl (by first | decide | simp) (x_assign rfl (fr.ev rfl)) ?_
            clear fr a; intro a fr
            refine wpList_nil ?_
            refine fx_blk ?_
            refine fx_next ?_
            refine wp_region_lit ?_  -- region 9
            refine fx_val (v := .int .i64 (wide - 1 - ((q : Nat) : Int))) fr rfl rfl (by first | decide | simp) (x_move rfl (fr.ev rfl)) ?_
            clear fr a; intro a fr
            refine fx_val (v := .int .i64 (wide - 1 - ((q + 1 : Nat) : Int))) fr rfl rfl (by first | decide | simp) (x_sub rfl (fr.ev rfl) rfl (i64w (r := wide - 1 - ((q + 1 : Nat) : Int)) (by omega) (by omega))) ?_
            clear fr a; intro a fr
            refine fx_val (v := .int .i64 (wide - 1 - ((q + 1 : Nat) : Int))) fr rfl rfl (by first | decide | simp) (x_assign rfl (fr.ev rfl)) ?_
            clear fr a; intro a fr
            refine wpList_nil ?_
            refine fx_next ?_
            rw [← (accF_yes hc49).1, ← (accF_yes hc49).2] at fr
            exact ⟨_, by omega, (q + 1), rfl, fr.sub ⟨rfl, rfl, rfl, rfl, rfl, rfl, rfl, trivial⟩, hF, hV, by omega⟩
          · skip
            have hc49 := of_decide_eq_false hc49
            refine wp_skip ?_
            refine fx_blk ?_
            refine fx_next ?_
            refine wp_region_lit ?_  -- region 9
            refine fx_val (v := .int .i64 (wide - 1 - ((q : Nat) : Int))) fr rfl rfl (by first | decide | simp) (x_move rfl (fr.ev rfl)) ?_
            clear fr a; intro a fr
            refine fx_val (v := .int .i64 (wide - 1 - ((q + 1 : Nat) : Int))) fr rfl rfl (by first | decide | simp) (x_sub rfl (fr.ev rfl) rfl (i64w (r := wide - 1 - ((q + 1 : Nat) : Int)) (by omega) (by omega))) ?_
            clear fr a; intro a fr
            refine fx_val (v := .int .i64 (wide - 1 - ((q + 1 : Nat) : Int))) fr rfl rfl (by first | decide | simp) (x_assign rfl (fr.ev rfl)) ?_
            clear fr a; intro a fr
            refine wpList_nil ?_
            refine fx_next ?_
            rw [← accF_no hc49] at fr
            exact ⟨_, by omega, (q + 1), rfl, fr.sub ⟨rfl, rfl, rfl, rfl, rfl, rfl, rfl, trivial⟩, hF, hV, by omega⟩
        · skip
          have hc43 := of_decide_eq_false hc43
          refine wp_exit ?_
          refine fx_xt ?_
          refine fx_xt ?_
          refine fx_xx ?_
          refine fx_next ?_
          refine wp_seq ?_
          refine wp_seq ?_
          have hqw : wide.toNat = q := by omega
          rw [hqw] at hacc
          refine wp_region_lit ?_  -- region 14
          refine fx_val (v := .int .i64 ((accF ((vals l).getD ((vals l).length - 1 - j) st0) addr wide q).2)) fr rfl rfl (by first | decide | simp) (x_move rfl (fr.ev rfl)) ?_
          clear fr a; intro a fr
          refine fx_val (v := .int .i64 wide) fr rfl rfl (by first | decide | simp) (x_move rfl (fr.ev rfl)) ?_
          clear fr a; intro a fr
          refine fx_val (v := .bool (decide ((accF ((vals l).getD ((vals l).length - 1 - j) st0) addr wide q).2 = wide))) fr rfl rfl (by first | decide | simp) (x_eql rfl (fr.ev rfl) (fr.ev rfl) rfl) ?_
          clear fr a; intro a fr
          refine wpList_nil ?_
          refine fx_next ?_
          refine fx_cond fr rfl (fun hc50 => ?_) (fun hc50 => ?_)
          · skip
            have hc50 := of_decide_eq_true hc50
            refine wp_seq ?_
            refine wp_region_lit ?_  -- region 15
            refine fx_val (v := .int .u32 ((accF ((vals l).getD ((vals l).length - 1 - j) st0) addr wide q).1)) fr rfl rfl (by first | decide | simp) (x_move rfl (fr.ev rfl)) ?_
            clear fr a; intro a fr
            refine fx_val (v := .int .u32 ((accF ((vals l).getD ((vals l).length - 1 - j) st0) addr wide q).1)) fr rfl rfl (by first | decide | simp) (x_assign rfl (fr.ev rfl)) ?_
            clear fr a; intro a fr
            refine fx_val (v := .int .i64 1) fr rfl rfl (by first | decide | simp) (x_assign rfl rfl) ?_
            clear fr a; intro a fr
            refine wpList_nil ?_
            refine fx_next ?_
            refine wp_ret ?_
            refine fx_rt ?_
            refine fx_rb ?_
            refine fx_rt ?_
            refine fx_rt ?_
            refine fx_rb ?_
            refine fx_rt ?_
            refine fx_ret fr [.tmp 6, .tmp 7] [.int .u32 ((accF ((vals l).getD ((vals l).length - 1 - j) st0) addr wide q).1), .int .i64 1] rfl ⟨rfl, rfl, trivial⟩ rfl ?_
            have hf : fwd l addr wide = ((accF ((vals l).getD ((vals l).length - 1 - j) st0) addr wide q).1, 1) := by unfold fwd; rw [if_pos ⟨by rw [hq]; rfl, by rw [hq]; omega⟩]; exact FStop.eq ⟨l.reverse.take j, _, rfl, hno, (by rw [← hxe]; exact hacc.1 (by omega))⟩ (by rw [← rev_take (by omega)]; exact List.take_prefix _ _)
            rw [hf]
            exact ⟨_, rfl, rfl, hF⟩
          · skip
            have hc50 := of_decide_eq_false hc50
            refine wp_skip ?_
            refine fx_next ?_
            refine wp_seq ?_
            refine wp_region_lit ?_  -- region 16
            refine fx_val (v := .int .i64 ((accF ((vals l).getD ((vals l).length - 1 - j) st0) addr wide q).2)) fr rfl rfl (by first | decide | simp) (x_move rfl (fr.ev rfl)) ?_
            clear fr a; intro a fr
            refine fx_val (v := .bool (decide (0 < (accF ((vals l).getD ((vals l).length - 1 - j) st0) addr wide q).2))) fr rfl rfl (by first | decide | simp) (x_gtr rfl (fr.ev rfl) rfl rfl) ?_
            clear fr a; intro a fr
            refine wpList_nil ?_
            refine fx_next ?_
            refine fx_cond fr rfl (fun hc51 => ?_) (fun hc51 => ?_)
            · skip
              have hc51 := of_decide_eq_true hc51
              refine wp_seq ?_
              refine wp_region_lit ?_  -- region 17
              refine fx_val (v := .int .u32 0) fr rfl rfl (by first | decide | simp) (x_assign rfl rfl) ?_
              clear fr a; intro a fr
              refine fx_val (v := .int .i64 2) fr rfl rfl (by first | decide | simp) (x_assign rfl rfl) ?_
              clear fr a; intro a fr
              refine wpList_nil ?_
              refine fx_next ?_
              refine wp_ret ?_
              refine fx_rb ?_
              refine fx_rt ?_
              refine fx_rt ?_
              refine fx_rb ?_
              refine fx_rt ?_
              refine fx_ret fr [.tmp 6, .tmp 7] [.int .u32 0, .int .i64 2] rfl ⟨rfl, rfl, trivial⟩ rfl ?_
              have hf : fwd l addr wide = (0, 2) := by unfold fwd; rw [if_pos ⟨by rw [hq]; rfl, by rw [hq]; omega⟩]; exact FStop.eq ⟨l.reverse.take j, _, rfl, hno, (by rw [← hxe]; exact hacc.2.1 (by omega) (by omega))⟩ (by rw [← rev_take (by omega)]; exact List.take_prefix _ _)
              rw [hf]
              exact ⟨_, rfl, rfl, hF⟩
            · skip
              have hc51 := of_decide_eq_false hc51
              refine wp_skip ?_
              refine fx_blk ?_
              refine fx_next ?_
              rw [show (((vals l).length - 1 - j : Nat) : Int) = (((vals l).length : Nat) : Int) - 1 - ((j : Nat) : Int) by omega] at fr
              refine wp_region_lit ?_  -- region 5
              refine fx_val (v := .int .i64 ((((vals l).length : Nat) : Int) - 1 - ((j : Nat) : Int))) fr rfl rfl (by first | decide | simp) (x_move rfl (fr.ev rfl)) ?_
              clear fr a; intro a fr
              refine fx_val (v := .int .i64 ((((vals l).length : Nat) : Int) - 1 - ((j + 1 : Nat) : Int))) fr rfl rfl (by first | decide | simp) (x_sub rfl (fr.ev rfl) rfl (i64w (r := (((vals l).length : Nat) : Int) - 1 - ((j + 1 : Nat) : Int)) (by omega) (by omega))) ?_
              clear fr a; intro a fr
              refine fx_val (v := .int .i64 ((((vals l).length : Nat) : Int) - 1 - ((j + 1 : Nat) : Int))) fr rfl rfl (by first | decide | simp) (x_assign rfl (fr.ev rfl)) ?_
              clear fr a; intro a fr
              refine wpList_nil ?_
              refine fx_next ?_
              exact ⟨_, by omega, (j + 1), rfl, fr.sub ⟨rfl, rfl, rfl, rfl, trivial⟩, hF, hV, by omega, (by rw [rev_take (by omega)]; exact fno_step hno (by rw [← hxe]; exact hacc.2.2 (by omega) (by omega)))⟩
      · skip
        have hc40 := of_decide_eq_false hc40
        refine wp_exit ?_
        refine fx_xt ?_
        refine fx_xt ?_
        refine fx_xx ?_
        refine fx_next ?_
        refine wp_seq ?_
        refine wp_region_lit ?_  -- region 18
        refine fx_val (v := .int .u32 0) fr rfl rfl (by first | decide | simp) (x_assign rfl rfl) ?_
        clear fr a; intro a fr
        refine fx_val (v := .int .i64 0) fr rfl rfl (by first | decide | simp) (x_assign rfl rfl) ?_
        clear fr a; intro a fr
        refine wpList_nil ?_
        refine fx_next ?_
        refine wp_ret ?_
        refine fx_ret fr [.tmp 6, .tmp 7] [.int .u32 0, .int .i64 0] rfl ⟨rfl, rfl, trivial⟩ rfl ?_
        have hf : fwd l addr wide = (0, 0) := by unfold fwd; rw [if_pos ⟨by rw [hq]; rfl, by rw [hq]; omega⟩]; rw [show j = l.length by omega, List.take_of_length_le (by simp)] at hno; exact fdone hno
        rw [hf]
        exact ⟨_, rfl, rfl, hF⟩
  · skip
    refine wp_region_lit ?_  -- region 1
    refine fx_val (v := .int .i64 wide) fr rfl rfl (by first | decide | simp) (x_move rfl (fr.ev rfl)) ?_
    clear fr a; intro a fr
    refine fx_call fr rfl rfl (by first | decide | simp) (x_call (vs := [.int .i64 wide]) rfl rfl ⟨(fr.ev rfl), trivial⟩ Try.func32 nm32 rfl) (rwide_c wide _) ?_
    clear fr a
    rintro v w9 ⟨rfl, hw9⟩ a fr
    obtain rfl := hw9.symm
    rw [hq] at fr
    refine fx_val (v := .bool true) fr rfl rfl (by first | decide | simp) (x_not rfl (fr.ev rfl) rfl) ?_
    clear fr a; intro a fr
    refine fx_val (v := .bool true) fr rfl rfl (by first | decide | simp) (x_move rfl (fr.ev rfl)) ?_
    clear fr a; intro a fr
    refine fx_skip fr (fr.unwant rfl rfl rfl (by decide)) rfl (by first | decide | simp) ?_
    clear fr a; intro a fr
    refine fx_skip fr (fr.unwant rfl rfl rfl (by decide)) rfl (by first | decide | simp) ?_
    clear fr a; intro a fr
    refine fx_skip fr (fr.unwant rfl rfl rfl (by decide)) rfl (by first | decide | simp) ?_
    clear fr a; intro a fr
    refine fx_skip fr (fr.unwant rfl rfl rfl (by decide)) rfl (by first | decide | simp) ?_
    clear fr a; intro a fr
    refine fx_skip fr (fr.unwant rfl rfl rfl (by decide)) rfl (by first | decide | simp) ?_
    clear fr a; intro a fr
    refine fx_val (v := .bool true) fr rfl rfl (by first | decide | simp) (x_pick_t rfl (fr.ev rfl) rfl) ?_
    clear fr a; intro a fr
    refine wpList_nil ?_
    refine fx_next ?_
    refine fx_cond_t fr rfl ?_
    refine wp_seq ?_
    refine wp_region_lit ?_  -- region 2
    refine fx_val (v := .int .u32 0) fr rfl rfl (by first | decide | simp) (x_assign rfl rfl) ?_
    clear fr a; intro a fr
    refine fx_val (v := .int .i64 0) fr rfl rfl (by first | decide | simp) (x_assign rfl rfl) ?_
    clear fr a; intro a fr
    refine wpList_nil ?_
    refine fx_next ?_
    refine wp_ret ?_
    refine fx_rt ?_
    refine fx_ret fr [.tmp 6, .tmp 7] [.int .u32 0, .int .i64 0] rfl ⟨rfl, rfl, trivial⟩ rfl ?_
    have hf : fwd l addr wide = (0, 0) := by unfold fwd; rw [if_neg (fun h => by have := h.1; rw [hq] at this; cases this)]
    rw [hf]
    exact ⟨_, rfl, rfl, hF⟩
end Go.Proofs.Ytemihglffmfikaa
