/-
  The iterator; All, Len. Printed by gen_e.py.
-/
import Derived.Test.YtdjgfkjcpalihaaLinD
namespace Go.Proofs.Ytdjgfkjcpalihaa
open Go.RowKit

set_option maxRecDepth 100000 in
set_option maxHeartbeats 4000000 in
theorem all_stops {w : World} {Fp : Nat → Prop} {b n : Nat} {ways : Int} {L : List Ln} (H : LinesAt w Fp b n ways L) {bn : Nat} (Bn : Blk w bn 25 #[.pointer (some ⟨b, 0, none⟩)]) {S9 : Nat → Prop} (hS_bn : ¬ S9 bn) (hS_F : ∀ g, Fp g → ¬ S9 g) : SeqStopsK Fence.wide 8 Try.prog 40 #[.pointer (some ⟨bn, 0, none⟩)] (fun x : Ln => #[.agg (lnE.arr x)]) (Only S9) (fun ys => ys = allL n L) (fun pre => pre <+: allL n L) (allL n L).length w := by
  intro y J Jx w1 hW hJ hJx hY h0
  have hn := below_new hW
  replace H := H.new hn
  replace Bn := Bn.new hn
  obtain ⟨S, FpR, rs, hB, hS, hR, hP⟩ := H
  have ne_b_S := hP.ne
  have ap_FpR_b := hP.apb
  have ap_FpR_S := hP.apS
  have hlen := hP.len
  obtain ⟨hn1, hn2, hw1, hw2⟩ := hP.bd
  have hFb : Fp b := (hP.foot b).2 (.inl rfl)
  have hFS : Fp S := (hP.foot S).2 (.inr (.inl rfl))
  show CallsIn Fence.wide 8 Try.prog 40 #[.func (.yield y) #[] #[], .pointer (some ⟨bn, 0, none⟩)] w1 _
  refine (callsIn_wide (n := 8)).2 ?_
  refine fx_enter Try.func40 rfl (N := (30, [])) (T := [(0, .func (.yield y) #[] #[]), (1, .pointer (some ⟨bn, 0, none⟩))]) rfl (show 2 ≤ 30 by decide) ⟨rfl, rfl, trivial⟩ fun a fr => ?_
  refine wp_scope_straight ?_
  refine wp_seq ?_
  refine wp_seq ?_
  refine wp_region_lit ?_  -- region 0
  refine fx_val (v := .pointer (some ⟨b, 0, none⟩)) fr rfl rfl (by first | decide | simp) (x_load1 pl25 rfl (fr.ev rfl) (Bn.cell 0 rfl)) ?_
  clear fr a; intro a fr
  refine fx_val (v := .bool false) fr rfl rfl (by first | decide | simp) (x_peql Try.underlying25 rfl (fr.ev rfl) rfl rfl) ?_
  clear fr a; intro a fr
  refine wpList_nil ?_
  refine fx_next ?_
  refine fx_cond_f fr rfl ?_
  refine wp_skip ?_
  refine fx_next ?_
  refine wp_seq ?_
  refine wp_label ?_
  refine fx_next ?_
  refine wp_seq ?_
  refine wp_region_lit ?_  -- region 1
  refine fx_val (v := .pointer (some ⟨b, 0, none⟩)) fr rfl rfl (by first | decide | simp) (x_load1 pl25 rfl (fr.ev rfl) (Bn.cell 0 rfl)) ?_
  clear fr a; intro a fr
  refine fx_val (v := .pointer (some ⟨b, 0, none⟩)) fr rfl rfl (by first | decide | simp) (x_nilCheck rfl (fr.ev rfl)) ?_
  clear fr a; intro a fr
  refine fx_val (v := .pointer (some ⟨b, 0, none⟩)) fr rfl rfl (by first | decide | simp) (x_fieldAddr fo74_0 rfl (fr.ev rfl) rfl) ?_
  clear fr a; intro a fr
  refine fx_val (v := .slice (some ⟨S, 0, none⟩) n n) fr rfl rfl (by first | decide | simp) (x_load1 pl72 rfl (fr.ev rfl) (hB.cell 0 rfl)) ?_
  clear fr a; intro a fr
  refine fx_val (v := .int .i64 ((n : Nat) : Int)) fr rfl rfl (by first | decide | simp) (x_len Try.underlying72 rfl (fr.ev rfl)) ?_
  clear fr a; intro a fr
  refine fx_val (v := .int .i64 0) fr rfl rfl (by first | decide | simp) (x_move rfl rfl) ?_
  clear fr a; intro a fr
  refine wpList_nil ?_
  refine fx_next ?_
  refine wp_block ?_
  refine fx_loop (fun nM a wL => ∃ i : Nat, nM = n - i ∧ Fr (30, []) [(0, .func (.yield y) #[] #[]), (1, .pointer (some ⟨bn, 0, none⟩)), (12, .slice (some ⟨S, 0, none⟩) n n), (13, .int .i64 ((n : Nat) : Int)), (14, .int .i64 ((i : Nat) : Int))] a ∧ Blk wL bn 25 #[.pointer (some ⟨b, 0, none⟩)] ∧ Blk wL b 74 #[.slice (some ⟨S, 0, none⟩) n n, .int .i64 ways] ∧ Blk wL S 26 (rowsArr rs) ∧ RowsAt wL FpR rs ∧ J (allP n L i) wL ∧ i ≤ n) (n0 := _) ⟨0, rfl, fr.sub ⟨rfl, rfl, rfl, rfl, rfl, trivial⟩, Bn, hB, hS, hR, h0, by omega⟩ ?_
  rintro n2 a w1 ⟨i, rfl, fr, Bn, hB, hS, hR, hj, hi⟩
  refine wp_seq ?_
  refine wp_region_lit ?_  -- region 2
  refine fx_val (v := .bool (decide (((i : Nat) : Int) < ((n : Nat) : Int)))) fr rfl rfl (by first | decide | simp) (x_lss rfl (fr.ev rfl) (fr.ev rfl) rfl) ?_
  clear fr a; intro a fr
  refine wpList_nil ?_
  refine fx_next ?_
  refine wp_seq ?_
  refine fx_cond fr rfl (fun hc3 => ?_) (fun hc3 => ?_)
  · skip
    have hc3 := of_decide_eq_true hc3
    refine wp_skip ?_
    refine fx_next ?_
    refine wp_seq ?_
    refine wp_block ?_
    refine wp_seq ?_
    obtain ⟨rA, rc, rl, hr⟩ : ∃ A9 c9 l9, rs.getD i r0 = ⟨A9, c9, l9⟩ := ⟨_, _, _, rfl⟩
    have hrl : rl = ofs n L i := by have h1 := hP.row i (by omega); rw [hr] at h1; exact h1
    have hrb := hP.fits i (by omega)
    rw [← hrl] at hrb
    refine wp_region_lit ?_  -- region 3
    refine fx_val (v := .pointer (some ⟨S, i, none⟩)) fr rfl rfl (by first | decide | simp) (x_indexV Try.underlying72 sz26 rfl (fr.ev rfl) (show (some ⟨S, 0, none⟩ : Option Addr) = some ⟨S, 0, none⟩ from rfl) (fr.ev rfl) (by omega) (show 0 + i * 1 = i by omega)) ?_
    clear fr a; intro a fr
    refine fx_val (v := .slice rA rl.length rc) fr rfl rfl (by first | decide | simp) (x_load1 pl26 rfl (fr.ev rfl) (hS.cell i (rows_cellAt (by omega) hr))) ?_
    clear fr a; intro a fr
    refine fx_val (v := .slice rA rl.length rc) fr rfl rfl (by first | decide | simp) (x_assign rfl (fr.ev rfl)) ?_
    clear fr a; intro a fr
    refine wpList_nil ?_
    refine fx_next ?_
    refine wp_seq ?_
    refine wp_region_lit ?_  -- region 4
    refine fx_val (v := .slice rA rl.length rc) fr rfl rfl (by first | decide | simp) (x_move rfl (fr.ev rfl)) ?_
    clear fr a; intro a fr
    refine fx_val (v := .int .i64 ((rl.length : Nat) : Int)) fr rfl rfl (by first | decide | simp) (x_len Try.underlying26 rfl (fr.ev rfl)) ?_
    clear fr a; intro a fr
    refine fx_val (v := .int .i64 0) fr rfl rfl (by first | decide | simp) (x_move rfl rfl) ?_
    clear fr a; intro a fr
    refine wpList_nil ?_
    refine fx_next ?_
    refine wp_block ?_
    refine fx_loop (fun nM a wL => ∃ j : Nat, nM = rl.length - j ∧ Fr (30, []) [(0, .func (.yield y) #[] #[]), (1, .pointer (some ⟨bn, 0, none⟩)), (12, .slice (some ⟨S, 0, none⟩) n n), (13, .int .i64 ((n : Nat) : Int)), (14, .int .i64 ((i : Nat) : Int)), (18, .slice rA rl.length rc), (19, .int .i64 ((rl.length : Nat) : Int)), (20, .int .i64 ((j : Nat) : Int))] a ∧ Blk wL bn 25 #[.pointer (some ⟨b, 0, none⟩)] ∧ Blk wL b 74 #[.slice (some ⟨S, 0, none⟩) n n, .int .i64 ways] ∧ Blk wL S 26 (rowsArr rs) ∧ RowsAt wL FpR rs ∧ J (allP n L i ++ rl.take j) wL ∧ j ≤ rl.length) (n0 := _) ⟨0, rfl, fr.sub ⟨rfl, rfl, rfl, rfl, rfl, rfl, rfl, rfl, trivial⟩, Bn, hB, hS, hR, (by rw [List.take_zero, List.append_nil]; exact hj), by omega⟩ ?_
    rintro n5 a w4 ⟨j, rfl, fr, Bn, hB, hS, hR, hj, hjr⟩
    refine wp_seq ?_
    refine wp_region_lit ?_  -- region 5
    refine fx_val (v := .bool (decide (((j : Nat) : Int) < ((rl.length : Nat) : Int)))) fr rfl rfl (by first | decide | simp) (x_lss rfl (fr.ev rfl) (fr.ev rfl) rfl) ?_
    clear fr a; intro a fr
    refine wpList_nil ?_
    refine fx_next ?_
    refine wp_seq ?_
    refine fx_cond fr rfl (fun hc6 => ?_) (fun hc6 => ?_)
    · skip
      have hc6 := of_decide_eq_true hc6
      refine wp_skip ?_
      refine fx_next ?_
      refine wp_seq ?_
      refine wp_block ?_
      refine wp_seq ?_
      have hF := Only.refl (fun _ => False) w4
      refine wp_region_lit ?_  -- region 6
      obtain ⟨g7, o8, hA9⟩ := ((hR.at_ (by omega) hr).view).some_ (by omega)
      refine fx_val (v := .pointer (some ⟨g7, o8 + j * 18, none⟩)) fr rfl rfl (by first | decide | simp) (x_indexV Try.underlying26 sz39 rfl (fr.ev rfl) hA9 (fr.ev rfl) (by omega) rfl) ?_
      clear fr a; intro a fr
      refine fx_val (v := .agg (lnE.arr (rl.getD j ln0))) fr rfl rfl (by first | decide | simp) (x_loadE (E := lnE) ag39 rfl rfl (fr.ev rfl) (((hR.at_ (by omega) hr).view).elem hA9 j ln0 (by omega))) ?_
      clear fr a; intro a fr
      refine fx_new fr rfl rfl (by first | decide | simp) (x_alloc (z := .agg (#[.int .u32 0, .int .i64 0, .int .u8 0, .int .u8 0, .int .u8 0, .int .u8 0, .int .u8 0, .int .u8 0, .int .u8 0, .int .u8 0, .int .u8 0, .int .u8 0, .int .u8 0, .int .u8 0, .int .u8 0, .int .u8 0, .int .u8 0, .int .u8 0])) (cs := lnE.arr ln0) rfl (by kernel_rfl) rfl) ?_
      clear fr a
      intro b10 w11 hN12 B13 hb14 a fr
      have ne_bn_b10 : NE bn b10 := NE.mk (Nat.lt_of_lt_of_le Bn.lt hb14)
      have ne_b_b10 : NE b b10 := NE.mk (Nat.lt_of_lt_of_le hB.lt hb14)
      have ne_S_b10 : NE S b10 := NE.mk (Nat.lt_of_lt_of_le hS.lt hb14)
      have ap_FpR_b10 : ¬ FpR b10 := hR.apart hb14
      have g_b10 := Nat.le_trans hF.size hb14
      replace Bn := Bn.new hN12
      replace hB := hB.new hN12
      replace hS := hS.new hN12
      replace hR := hR.new hN12
      replace hF := hF.trNew hN12
      refine fx_storeS sz39 rfl rfl rfl (fr.ev rfl) (fr.ev rfl) (lnE.all _) B13 (lnE.size _) (lnE.size _) fun w15 hO16 hBq => ?_
      replace Bn := Bn.only hO16 (by first | exact ne_bn_b10 | exact ne_b10_bn.symm | (show ¬ bn = b10; omega))
      replace hB := hB.only hO16 (by first | exact ne_b_b10 | exact ne_b10_b.symm | (show ¬ b = b10; omega))
      replace hS := hS.only hO16 (by first | exact ne_S_b10 | exact ne_b10_S.symm | (show ¬ S = b10; omega))
      replace hR := hR.only hO16 (ne1P ap_FpR_b10)
      replace hF := hF.loc hO16 (.inr g_b10)
      replace B13 := hBq
      clear hBq
      refine wpList_nil ?_
      refine fx_next ?_
      refine wp_seq ?_
      refine fxi_region ?_  -- region 7
      refine fxi_val (v := .func (.yield y) #[] #[]) fr rfl rfl (by first | decide | simp) (x_move rfl (fr.ev rfl)) ?_
      clear fr a; intro a fr
      refine fxi_val (v := .agg (lnE.arr (rl.getD j ln0))) fr rfl rfl (by first | decide | simp) (x_loadE (E := lnE) ag39 rfl rfl (fr.ev rfl) (B13.rangeE lnE)) ?_
      clear fr a; intro a fr
      refine fxi_yield (n := 8) fr rfl rfl (by decide) rfl (fr.ev rfl) (fr.ev rfl) (hY _ (rl.getD j ln0) _ (AbidesFrom.new hJ hj hF) (allQ_lt hrl (by omega) (by omega))) (fun w17 hy18 a fr => ?_) (fun w17 hy18 a fr => ?_)
      · skip
        skip
        obtain ⟨hj, hk⟩ := hy18
        replace Bn := Bn.only hk hS_bn
        replace hB := hB.only hk (hS_F _ hFb)
        replace hS := hS.only hk (hS_F _ hFS)
        replace hR := hR.only hk (fun g hg => hS_F g ((hP.foot g).2 (.inr (.inr hg))))
        refine fxi_val (v := .bool false) fr rfl rfl (by first | decide | simp) (x_not rfl (fr.ev rfl) rfl) ?_
        clear fr a; intro a fr
        refine wpListIn_nil ?_
        refine fx_next ?_
        refine fx_cond_f fr rfl ?_
        refine wp_skip ?_
        refine fx_blk ?_
        refine fx_next ?_
        refine wp_region_lit ?_  -- region 8
        refine fx_val (v := .int .i64 ((j + 1 : Nat) : Int)) fr rfl rfl (by first | decide | simp) (x_add rfl (fr.ev rfl) rfl (i64w (r := ((j + 1 : Nat) : Int)) (by omega) (by omega))) ?_
        clear fr a; intro a fr
        refine fx_val (v := .int .i64 ((j + 1 : Nat) : Int)) fr rfl rfl (by first | decide | simp) (x_move rfl (fr.ev rfl)) ?_
        clear fr a; intro a fr
        refine wpList_nil ?_
        refine fx_next ?_
        exact ⟨_, by omega, (j + 1), rfl, fr.sub ⟨rfl, rfl, rfl, rfl, rfl, rfl, rfl, rfl, trivial⟩, Bn, hB, hS, hR, (by rw [take_snoc (by omega), ← List.append_assoc]; exact hj), by omega⟩
      · skip
        skip
        have hx := hy18
        refine fxi_val (v := .bool true) fr rfl rfl (by first | decide | simp) (x_not rfl (fr.ev rfl) rfl) ?_
        clear fr a; intro a fr
        refine wpListIn_nil ?_
        refine fx_next ?_
        refine fx_cond_t fr rfl ?_
        refine wp_exit ?_
        refine fx_xb (by decide) ?_
        refine fx_xt ?_
        refine fx_xt ?_
        refine fx_xb (by decide) ?_
        refine fx_xb (by decide) ?_
        refine fx_xt ?_
        refine fx_xt ?_
        refine fx_xx ?_
        refine fx_sn ?_
        refine fx_end fr [] [] rfl trivial rfl ?_
        exact ⟨⟨_, rfl⟩, .inr ⟨_, (by rw [List.append_assoc, ← take_snoc (by omega)]; exact allQ_prefix hrl (by omega) _), hx⟩⟩
    · skip
      have hc6 := of_decide_eq_false hc6
      refine wp_exit ?_
      refine fx_xt ?_
      refine fx_xt ?_
      refine fx_xx ?_
      refine fx_blk ?_
      refine fx_next ?_
      refine wp_region_lit ?_  -- region 9
      refine fx_val (v := .int .i64 ((i + 1 : Nat) : Int)) fr rfl rfl (by first | decide | simp) (x_add rfl (fr.ev rfl) rfl (i64w (r := ((i + 1 : Nat) : Int)) (by omega) (by omega))) ?_
      clear fr a; intro a fr
      refine fx_val (v := .int .i64 ((i + 1 : Nat) : Int)) fr rfl rfl (by first | decide | simp) (x_move rfl (fr.ev rfl)) ?_
      clear fr a; intro a fr
      refine wpList_nil ?_
      refine fx_next ?_
      exact ⟨_, by omega, (i + 1), rfl, fr.sub ⟨rfl, rfl, rfl, rfl, rfl, trivial⟩, Bn, hB, hS, hR, (by rw [allP_succ, ← hrl]; rw [List.take_of_length_le (by omega)] at hj; exact hj), by omega⟩
  · skip
    have hc3 := of_decide_eq_false hc3
    refine wp_exit ?_
    refine fx_xt ?_
    refine fx_xt ?_
    refine fx_xx ?_
    refine fx_sn ?_
    refine fx_end fr [] [] rfl trivial rfl ?_
    exact ⟨⟨_, rfl⟩, .inl ⟨_, (by rw [show i = n by omega]; exact allP_end), hj⟩⟩
set_option maxRecDepth 100000 in
set_option maxHeartbeats 4000000 in
theorem all_stops_nil {w : World} {bn : Nat} (Bn : Blk w bn 25 #[.pointer none]) {S9 : Nat → Prop} : SeqStopsK Fence.wide 8 Try.prog 40 #[.pointer (some ⟨bn, 0, none⟩)] (fun x : Ln => #[.agg (lnE.arr x)]) (Only S9) (fun ys => ys = ([] : List Ln)) (fun pre => pre <+: ([] : List Ln)) (([] : List Ln)).length w := by
  intro y J Jx w1 hW hJ hJx hY h0
  have hn := below_new hW
  replace Bn := Bn.new hn
  show CallsIn Fence.wide 8 Try.prog 40 #[.func (.yield y) #[] #[], .pointer (some ⟨bn, 0, none⟩)] w1 _
  refine (callsIn_wide (n := 8)).2 ?_
  refine fx_enter Try.func40 rfl (N := (30, [])) (T := [(0, .func (.yield y) #[] #[]), (1, .pointer (some ⟨bn, 0, none⟩))]) rfl (show 2 ≤ 30 by decide) ⟨rfl, rfl, trivial⟩ fun a fr => ?_
  refine wp_scope_straight ?_
  refine wp_seq ?_
  refine wp_seq ?_
  refine wp_region_lit ?_  -- region 0
  refine fx_val (v := .pointer none) fr rfl rfl (by first | decide | simp) (x_load1 pl25 rfl (fr.ev rfl) (Bn.cell 0 rfl)) ?_
  clear fr a; intro a fr
  refine fx_val (v := .bool true) fr rfl rfl (by first | decide | simp) (x_peql Try.underlying25 rfl (fr.ev rfl) rfl rfl) ?_
  clear fr a; intro a fr
  refine wpList_nil ?_
  refine fx_next ?_
  refine fx_cond_t fr rfl ?_
  refine wp_ret ?_
  refine fx_rt ?_
  refine fx_sr ?_
  refine fx_ret fr [] [] rfl trivial rfl ?_
  exact ⟨⟨_, rfl⟩, .inl ⟨_, rfl, h0⟩⟩
set_option maxRecDepth 100000 in
set_option maxHeartbeats 4000000 in
theorem all_c {w : World} {Fp : Nat → Prop} {b n : Nat} {ways : Int} {L : List Ln} (H : LinesAt w Fp b n ways L) : Calls Try.prog 28 #[.pointer (some ⟨b, 0, none⟩)] w (Ret fun v w' => ∃ bn b' Fp', v = .func (.func 40) #[] #[.pointer (some ⟨bn, 0, none⟩)] ∧ Blk w' bn 25 #[.pointer (some ⟨b', 0, none⟩)] ∧ LinesAt w' Fp' b' n ways L ∧ w.heap.size ≤ bn ∧ (∀ g, Fp' g → w.heap.size ≤ g) ∧ ¬ Fp' bn ∧ New w w') := by
  have hF := Only.refl (fun _ => False) w
  refine fx_enter Try.func28 rfl (N := (6, [])) (T := [(0, .pointer (some ⟨b, 0, none⟩))]) rfl (show 1 ≤ 6 by decide) ⟨rfl, trivial⟩ fun a fr => ?_
  refine wp_seq ?_
  refine wp_region_lit ?_  -- region 0
  refine fx_new fr rfl rfl (by first | decide | simp) (x_box (cs := #[.pointer (some ⟨b, 0, none⟩)]) rfl (fr.ev rfl) rfl) ?_
  clear fr a
  intro b1 w2 hN3 B4 hb5 a fr
  have ap_Fp_b1 : ¬ Fp b1 := H.apart hb5
  have g_b1 := Nat.le_trans hF.size hb5
  replace H := H.new hN3
  replace hF := hF.trNew hN3
  refine fx_val (v := .nilFunc) fr rfl rfl (by first | decide | simp) (x_assign rfl rfl) ?_
  clear fr a; intro a fr
  refine wpList_nil ?_
  refine fx_next ?_
  refine wp_seq ?_
  refine wp_region_lit ?_  -- region 1
  refine fx_val (v := .pointer (some ⟨b, 0, none⟩)) fr rfl rfl (by first | decide | simp) (x_load1 pl25 rfl (fr.ev rfl) (B4.cell 0 rfl)) ?_
  clear fr a; intro a fr
  refine fx_call fr rfl rfl (by first | decide | simp) (x_call (vs := [.pointer (some ⟨b, 0, none⟩)]) rfl rfl ⟨(fr.ev rfl), trivial⟩ Try.func26 nm26 rfl) (copy_c H) ?_
  clear fr a
  rintro v w10 ⟨b6, Fp7, rfl, H8, hb9, hN11⟩ a fr
  have ap2_Fp_Fp7 : ∀ k, Fp k → Fp7 k → False := symP (new_apart2P hb9 fun _ hg => H.lt hg)
  have ap_Fp7_b1 : ¬ Fp7 b1 := new_apartP hb9 B4.lt
  have gA_Fp7 := gA_newP hF hb9
  replace H := H.new hN11
  replace B4 := B4.new hN11
  replace hF := hF.trNew hN11
  refine fx_store1 sz25 rfl rfl rfl (fr.ev rfl) (fr.ev rfl) rfl B4 (show 0 < 1 by decide) (cs' := #[.pointer (some ⟨b6, 0, none⟩)]) rfl fun w12 hO13 hBq => ?_
  replace H := H.only hO13 (ne1P ap_Fp_b1)
  replace H8 := H8.only hO13 (ne1P ap_Fp7_b1)
  replace hF := hF.loc hO13 (.inr g_b1)
  replace B4 := hBq
  clear hBq
  refine wpList_nil ?_
  refine fx_next ?_
  refine wp_seq ?_
  refine wp_region_lit ?_  -- region 2
  refine fx_val (v := .func (.func 40) #[] #[.pointer (some ⟨b1, 0, none⟩)]) fr rfl rfl (by first | decide | simp) (x_makeFunc (vs := [.pointer (some ⟨b1, 0, none⟩)]) rfl ⟨(fr.ev rfl), trivial⟩) ?_
  clear fr a; intro a fr
  refine fx_val (v := .func (.func 40) #[] #[.pointer (some ⟨b1, 0, none⟩)]) fr rfl rfl (by first | decide | simp) (x_assign rfl (fr.ev rfl)) ?_
  clear fr a; intro a fr
  refine wpList_nil ?_
  refine fx_next ?_
  refine wp_ret ?_
  refine fx_ret fr [.tmp 2] [.func (.func 40) #[] #[.pointer (some ⟨b1, 0, none⟩)]] rfl ⟨rfl, trivial⟩ rfl ?_
  exact ⟨_, rfl, b1, b6, Fp7, rfl, B4, H8, g_b1, (fun g hg => (gA_Fp7 g hg).resolve_left id), ap_Fp7_b1, hF⟩
set_option maxRecDepth 100000 in
set_option maxHeartbeats 4000000 in
theorem all_nil (w : World) : Calls Try.prog 28 #[.pointer none] w (Ret fun v w' => ∃ bn, v = .func (.func 40) #[] #[.pointer (some ⟨bn, 0, none⟩)] ∧ Blk w' bn 25 #[.pointer none] ∧ w.heap.size ≤ bn ∧ New w w') := by
  have hF := Only.refl (fun _ => False) w
  refine fx_enter Try.func28 rfl (N := (6, [])) (T := [(0, .pointer none)]) rfl (show 1 ≤ 6 by decide) ⟨rfl, trivial⟩ fun a fr => ?_
  refine wp_seq ?_
  refine wp_region_lit ?_  -- region 0
  refine fx_new fr rfl rfl (by first | decide | simp) (x_box (cs := #[.pointer none]) rfl (fr.ev rfl) rfl) ?_
  clear fr a
  intro b1 w2 hN3 B4 hb5 a fr
  have g_b1 := Nat.le_trans hF.size hb5
  replace hF := hF.trNew hN3
  refine fx_val (v := .nilFunc) fr rfl rfl (by first | decide | simp) (x_assign rfl rfl) ?_
  clear fr a; intro a fr
  refine wpList_nil ?_
  refine fx_next ?_
  refine wp_seq ?_
  refine wp_region_lit ?_  -- region 1
  refine fx_val (v := .pointer none) fr rfl rfl (by first | decide | simp) (x_load1 pl25 rfl (fr.ev rfl) (B4.cell 0 rfl)) ?_
  clear fr a; intro a fr
  refine fx_call fr rfl rfl (by first | decide | simp) (x_call (vs := [.pointer none]) rfl rfl ⟨(fr.ev rfl), trivial⟩ Try.func26 nm26 rfl) (copy_nil _) ?_
  clear fr a
  rintro v w9 ⟨rfl, hw9⟩ a fr
  obtain rfl := hw9.symm
  refine fx_store1 sz25 rfl rfl rfl (fr.ev rfl) (fr.ev rfl) rfl B4 (show 0 < 1 by decide) (cs' := #[.pointer none]) rfl fun w8 hO9 hBq => ?_
  replace hF := hF.loc hO9 (.inr g_b1)
  replace B4 := hBq
  clear hBq
  refine wpList_nil ?_
  refine fx_next ?_
  refine wp_seq ?_
  refine wp_region_lit ?_  -- region 2
  refine fx_val (v := .func (.func 40) #[] #[.pointer (some ⟨b1, 0, none⟩)]) fr rfl rfl (by first | decide | simp) (x_makeFunc (vs := [.pointer (some ⟨b1, 0, none⟩)]) rfl ⟨(fr.ev rfl), trivial⟩) ?_
  clear fr a; intro a fr
  refine fx_val (v := .func (.func 40) #[] #[.pointer (some ⟨b1, 0, none⟩)]) fr rfl rfl (by first | decide | simp) (x_assign rfl (fr.ev rfl)) ?_
  clear fr a; intro a fr
  refine wpList_nil ?_
  refine fx_next ?_
  refine wp_ret ?_
  refine fx_ret fr [.tmp 2] [.func (.func 40) #[] #[.pointer (some ⟨b1, 0, none⟩)]] rfl ⟨rfl, trivial⟩ rfl ?_
  exact ⟨_, rfl, b1, rfl, B4, g_b1, hF⟩
set_option maxRecDepth 100000 in
set_option maxHeartbeats 4000000 in
theorem lall_c {w : World} {Fp : Nat → Prop} {b n : Nat} {ways : Int} {L : List Ln} (H : LinesAt w Fp b n ways L) (hl : L.length ≤ 100000) : Calls Try.prog 24 #[.pointer (some ⟨b, 0, none⟩)] w (Ret fun v w' => ∃ A' cap', v = .slice A' (allL n L).length cap' ∧ Own lnE w' A' cap' (allL n L) ∧ (∀ g, inA A' g → w.heap.size ≤ g) ∧ New w w') := by
  have hxs := allL_len (H.bd).1 L
  have hF := Only.refl (fun _ => False) w
  refine fx_enterM Try.func24 rfl (N := (16, [])) (T := [(0, .pointer (some ⟨b, 0, none⟩))]) rfl (show 1 ≤ 16 by decide) ⟨rfl, trivial⟩ fun a fr => ?_
  refine wp_seq ?_
  refine wp_region_lit ?_  -- region 0
  refine fx_val (v := .slice none 0 0) fr rfl rfl (by first | decide | simp) (x_assign rfl rfl) ?_
  clear fr a; intro a fr
  refine wpList_nil ?_
  refine fx_next ?_
  refine wp_seq ?_
  refine wp_region_lit ?_  -- region 1
  refine fx_new fr rfl rfl (by first | decide | simp) (x_alloc (z := .slice none 0 0) (cs := #[.slice none 0 0]) rfl (by kernel_rfl) rfl) ?_
  clear fr a
  intro b1 w2 hN3 B4 hb5 a fr
  have ap_Fp_b1 : ¬ Fp b1 := H.apart hb5
  have g_b1 := Nat.le_trans hF.size hb5
  replace H := H.new hN3
  replace hF := hF.trNew hN3
  refine wpList_nil ?_
  refine fx_next ?_
  refine wp_seq ?_
  refine wp_seq ?_
  refine wp_region_lit ?_  -- region 2
  refine fx_val (v := .pointer (some ⟨b, 0, none⟩)) fr rfl rfl (by first | decide | simp) (x_move rfl (fr.ev rfl)) ?_
  clear fr a; intro a fr
  refine fx_call fr rfl rfl (by first | decide | simp) (x_call (vs := [.pointer (some ⟨b, 0, none⟩)]) rfl rfl ⟨(fr.ev rfl), trivial⟩ Try.func28 nm28 rfl) (all_c H) ?_
  clear fr a
  rintro v w14 ⟨bn6, b8, Fp9, rfl, Bn7, H10, hb11, hf12, hx13, hN15⟩ a fr
  have ap_Fp_bn6 : ¬ Fp bn6 := H.apart hb11
  have ne_b1_bn6 : NE b1 bn6 := NE.mk (Nat.lt_of_lt_of_le B4.lt hb11)
  have g_bn6 := Nat.le_trans hF.size hb11
  have ap2_Fp_Fp9 : ∀ k, Fp k → Fp9 k → False := symP (new_apart2P hf12 fun _ hg => H.lt hg)
  have ap_Fp9_b1 : ¬ Fp9 b1 := new_apartP hf12 B4.lt
  have gA_Fp9 := gA_newP hF hf12
  replace H := H.new hN15
  replace B4 := B4.new hN15
  replace hF := hF.trNew hN15
  have ap_Fp9_bn6 : ¬ Fp9 bn6 := hx13
  refine fx_val (v := .bool false) fr rfl rfl (by first | decide | simp) (x_feql Try.underlying64 rfl (fr.ev rfl) rfl) ?_
  clear fr a; intro a fr
  refine wpList_nil ?_
  refine fx_next ?_
  refine fx_cond_f fr rfl ?_
  refine wp_skip ?_
  refine fx_next ?_
  refine wp_seq ?_
  refine wp_seq ?_
  refine wp_region_lit ?_  -- region 4
  refine fx_val (v := .pointer (some ⟨b, 0, none⟩)) fr rfl rfl (by first | decide | simp) (x_move rfl (fr.ev rfl)) ?_
  clear fr a; intro a fr
  refine fx_call fr rfl rfl (by first | decide | simp) (x_call (vs := [.pointer (some ⟨b, 0, none⟩)]) rfl rfl ⟨(fr.ev rfl), trivial⟩ Try.func28 nm28 rfl) (all_c H) ?_
  clear fr a
  rintro v w24 ⟨bn16, b18, Fp19, rfl, Bn17, H20, hb21, hf22, hx23, hN25⟩ a fr
  have ap_Fp_bn16 : ¬ Fp bn16 := H.apart hb21
  have ne_b1_bn16 : NE b1 bn16 := NE.mk (Nat.lt_of_lt_of_le B4.lt hb21)
  have ne_bn6_bn16 : NE bn6 bn16 := NE.mk (Nat.lt_of_lt_of_le Bn7.lt hb21)
  have ap_Fp9_bn16 : ¬ Fp9 bn16 := H10.apart hb21
  have g_bn16 := Nat.le_trans hF.size hb21
  have ap2_Fp_Fp19 : ∀ k, Fp k → Fp19 k → False := symP (new_apart2P hf22 fun _ hg => H.lt hg)
  have ap_Fp19_b1 : ¬ Fp19 b1 := new_apartP hf22 B4.lt
  have ap_Fp19_bn6 : ¬ Fp19 bn6 := new_apartP hf22 Bn7.lt
  have ap2_Fp9_Fp19 : ∀ k, Fp9 k → Fp19 k → False := symP (new_apart2P hf22 fun _ hg => H10.lt hg)
  have gA_Fp19 := gA_newP hF hf22
  replace H := H.new hN25
  replace B4 := B4.new hN25
  replace Bn7 := Bn7.new hN25
  replace H10 := H10.new hN25
  replace hF := hF.trNew hN25
  have ap_Fp19_bn16 : ¬ Fp19 bn16 := hx23
  refine wpList_nil ?_
  refine fx_next ?_
  refine wp_block ?_
  have lt_b1 := B4.lt
  refine fx_range (xs := allL n L) (e := fun x : Ln => Value.agg (lnE.arr x)) fr rfl (by decide) (enters_of Try.func40 nm40 rfl) (SI := fun k => k = b1 ∨ w24.heap.size ≤ k) (fun _ h => .inr h) (all_stops H20 Bn17 (fun h => h.elim (by first | exact ne_bn16_b1 | exact ne_b1_bn16.symm | (show ¬ bn16 = b1; omega)) (fun h => by have := Bn17.lt; omega)) (fun g hg => (fun h => h.elim ((ne1P ap_Fp19_b1) g hg) (fun h => by have := H20.lt hg; omega)))) (fun pre W => ∃ A : Option Addr, ∃ cap : Nat, Blk W b1 26 #[.slice A pre.length cap] ∧ Own lnE W A cap pre ∧ Only (fun k => k = b1) w24 W ∧ ∀ g, inA A g → w24.heap.size ≤ g) (fun c pre W => False) (fun x a' W => ∃ b26 : Nat, Blk W b26 39 (lnE.arr x) ∧ w24.heap.size ≤ b26 ∧ Fr (16, []) [(0, .pointer (some ⟨b, 0, none⟩)), (2, .slice none 0 0), (3, .pointer (some ⟨b1, 0, none⟩)), (5, .pointer (some ⟨b, 0, none⟩)), (6, .func (.func 40) #[] #[.pointer (some ⟨bn6, 0, none⟩)]), (7, .bool false), (8, .pointer (some ⟨b, 0, none⟩)), (9, .func (.func 40) #[] #[.pointer (some ⟨bn16, 0, none⟩)]), (10, .agg (lnE.arr x)), (4, .pointer (some ⟨b26, 0, none⟩))] a') ?_ ?_ ?_ ?_ ⟨none, 0, B4, Own.nil, Only.refl _ _, (fun g hg => absurd hg (apart_none g))⟩ ?_ ?_ ?_ ?_
  · rintro pre W W' ⟨A, cap, Bo, Oc, hC, hg_A⟩ hT; exact ⟨A, cap, Bo.turn hT, Oc.turn hT, hC.turn hT (Nat.le_refl _), hg_A⟩
  · exact fun _ _ _ _ h _ => h.elim
  · rintro x a' _ W W' ⟨b26, B29, h_b26, hf⟩ hT; exact ⟨b26, B29.turn hT, h_b26, hf⟩
  · rintro pre W W' ⟨A, cap, Bo, Oc, hC, hg_A⟩ hN; exact ⟨A, cap, Bo.new hN, Oc.new hN, hC.trNew hN, hg_A⟩
  · skip
    rintro l pre x W K ⟨A, cap, Bo, Oc, hC, hg_A⟩ hK a fr
    have hF := Only.refl (fun _ => False) W
    refine fxr_region (by kernel_rfl) (by rintro ⟨_, _, h⟩; exact h) ?_  -- region 5
    refine fx_new fr rfl rfl (by first | decide | simp) (x_alloc (z := .agg (#[.int .u32 0, .int .i64 0, .int .u8 0, .int .u8 0, .int .u8 0, .int .u8 0, .int .u8 0, .int .u8 0, .int .u8 0, .int .u8 0, .int .u8 0, .int .u8 0, .int .u8 0, .int .u8 0, .int .u8 0, .int .u8 0, .int .u8 0, .int .u8 0])) (cs := lnE.arr ln0) rfl (by kernel_rfl) rfl) ?_
    clear fr a
    intro b26 w27 hN28 B29 hb30 a fr
    have g_b26 := Nat.le_trans hF.size hb30
    replace hF := hF.trNew hN28
    refine fx_storeS sz39 rfl rfl rfl (fr.ev rfl) (fr.ev rfl) (lnE.all _) B29 (lnE.size _) (lnE.size _) fun w31 hO32 hBq => ?_
    replace hF := hF.loc hO32 (.inr g_b26)
    replace B29 := hBq
    clear hBq
    refine wpList_nil ?_
    refine hK _ _ hF ⟨b26, B29, Nat.le_trans hC.size g_b26, fr.sub ⟨rfl, rfl, rfl, rfl, rfl, rfl, rfl, rfl, rfl, rfl, trivial⟩⟩
  · skip
    rintro lq pre x a W ⟨A, cap, Bo, Oc, hC, hg_A⟩ ⟨b26, B29, h_b26, fr⟩ hlen
    have ne_b1_b26 : NE b1 b26 := NE.mk (Nat.lt_of_lt_of_le lt_b1 h_b26)
    have ap_A_b1 : Apart A b1 := fun h => by have := hg_A _ h; omega
    have cl_b1 := Bo.cells
    have cl_A := fun g (hg : inA A g) => Oc.cells hg
    have hF := Only.refl (fun k => k = b1 ∨ inA A k) W
    have gA_A : ∀ g, inA A g → (fun k => k = b1 ∨ inA A k) g ∨ W.heap.size ≤ g := fun g hg => .inl (Or.inr (hg))
    have hcl : ∀ k, k < W.heap.size → (fun k => k = b1 ∨ inA A k) k → (fun k => k = b1 ∨ w24.heap.size ≤ k) k ∧ ∃ o : Obj, W.heap[k]? = some o ∧ o.isCells = true := by
      rintro k _ (rfl | hs)
      · exact ⟨Or.inl rfl, cl_b1⟩
      · exact ⟨Or.inr (hg_A k hs), cl_A k hs⟩
    have hSS : ∀ k, k < w24.heap.size → (fun k => k = b1 ∨ inA A k) k → (fun k => k = b1) k := by
      rintro k hk (rfl | hs)
      · exact rfl
      · have := hg_A k hs; omega
    have hxl : pre.length ≤ 100000 := by have := hxs; omega
    refine wpIn_block ?_
    refine fxr_region (by kernel_rfl) (by rintro ⟨_, _, h⟩; exact h) ?_  -- region 6
    refine fx_val (v := .slice A pre.length cap) fr rfl rfl (by first | decide | simp) (x_load1 pl26 rfl (fr.ev rfl) (Bo.cell 0 rfl)) ?_
    clear fr a; intro a fr
    refine fx_val (v := .agg (lnE.arr x)) fr rfl rfl (by first | decide | simp) (x_loadE (E := lnE) ag39 rfl rfl (fr.ev rfl) (B29.rangeE lnE)) ?_
    clear fr a; intro a fr
    refine fx_build1 (E := lnE) (p := x) elLn (by decide) fr rfl rfl (by decide) rfl (fr.ev rfl) ?_
    clear fr a
    intro A33 w34 hN35 O36 hA37 a fr
    have ap_A33_b1 : Apart A33 b1 := new_apart hA37 Bo.lt
    have ap2_A_A33 : Apart2 A A33 := (new_apart2 hA37 fun _ hg => Oc.lt hg).symm
    have ap_A33_b26 : Apart A33 b26 := new_apart hA37 B29.lt
    have gA_A33 := gA_new hF hA37
    replace Bo := Bo.new hN35
    replace Oc := Oc.new hN35
    replace B29 := B29.new hN35
    replace hF := hF.trNew hN35
    refine fx_append (E := lnE) (l := pre) (l' := [x]) elLn fr rfl rfl (by decide) rfl (fr.ev rfl) (fr.ev rfl) (by first | rfl | (simp; done) | (simp; omega)) (by first | rfl | (simp; done) | (simp; omega)) Oc O36.view (by first | omega | (simp only [List.length_append, List.length_cons, List.length_nil]; omega)) (by unfold maxLen; first | omega | (simp; omega)) ?_
    clear fr a
    intro A38 cap39 w40 O41 hO42 mv43 a fr
    have ap_A38_b1 : Apart A38 b1 := moved_apart mv43 ap_A_b1 Bo.lt
    have ap2_A38_A33 : Apart2 A38 A33 := moved_apart2 mv43 ap2_A_A33 fun _ hg => O36.lt hg
    have gA_A38 := gA_moved hF mv43 gA_A
    replace Bo := Bo.only hO42 ap_A_b1
    replace O36 := O36.only hO42 (fun g h1 h2 => ap2_A_A33.symm g h1 h2)
    replace hF := hF.locA hO42 gA_A
    clear Oc
    refine fx_store1 sz26 rfl rfl rfl (fr.ev rfl) (fr.ev rfl) rfl Bo (show 0 < 1 by decide) (cs' := #[.slice A38 ((pre ++ ([x])).length) cap39]) rfl fun w44 hO45 hBq => ?_
    replace O36 := O36.only hO45 (Apart.ne1 ap_A33_b1)
    replace O41 := O41.only hO45 (Apart.ne1 ap_A38_b1)
    replace hF := hF.loc hO45 (.inl (Or.inl rfl))
    replace Bo := hBq
    clear hBq
    refine wpList_nil ?_
    refine fx_blk ?_
    exact ⟨⟨_, hF, hcl⟩, A38, cap39, Bo, O41, hC.trans hF hSS, (fun g hg => (gA_A38 g hg).elim (fun h => by rcases h with rfl | hs; all_goals first | exact hg_A g hs | exact absurd hg (by first | exact ap_A38_b1 | (intro h; exact h))) (fun h => Nat.le_trans hC.size h))⟩
  · skip
    rintro D46 W1 hD ⟨A, cap, Bo, Oc, hC, hg_A⟩ hD_D46 a fr
    have g_D46 := Nat.le_trans hF.size hD
    have ap_A_b1 : Apart A b1 := fun h => by have := hg_A _ h; have := lt_b1; omega
    have ap2_Fp_A : ∀ k, Fp k → inA A k → False := symP (new_apart2P hg_A fun _ hg => H.lt hg)
    have ap_A_bn6 : Apart A bn6 := new_apart hg_A Bn7.lt
    have ap2_Fp9_A : ∀ k, Fp9 k → inA A k → False := symP (new_apart2P hg_A fun _ hg => H10.lt hg)
    have ap_A_bn16 : Apart A bn16 := new_apart hg_A Bn17.lt
    have ap2_Fp19_A : ∀ k, Fp19 k → inA A k → False := symP (new_apart2P hg_A fun _ hg => H20.lt hg)
    have gA_A := gA_new hF hg_A
    replace H := H.only hC (ne1P ap_Fp_b1)
    replace Bn7 := Bn7.only hC (by first | exact ne_bn6_b1 | exact ne_b1_bn6.symm | (show ¬ bn6 = b1; omega))
    replace H10 := H10.only hC (ne1P ap_Fp9_b1)
    replace Bn17 := Bn17.only hC (by first | exact ne_bn16_b1 | exact ne_b1_bn16.symm | (show ¬ bn16 = b1; omega))
    replace H20 := H20.only hC (ne1P ap_Fp19_b1)
    replace hF := hF.loc hC (.inr g_b1)
    have ne_bn6_D46 := Bn7.mark hD_D46
    have ne_bn16_D46 := Bn17.mark hD_D46
    have ne_b1_D46 := Bo.mark hD_D46
    have ap_A_D46 := Oc.mark hD_D46
    refine fx_blk ?_
    refine fx_next ?_
    refine wp_seq ?_
    refine wp_region_lit ?_  -- region 7
    refine fx_val (v := .slice A ((allL n L).length) cap) fr rfl rfl (by first | decide | simp) (x_load1 pl26 rfl (fr.ev rfl) (Bo.cell 0 rfl)) ?_
    clear fr a; intro a fr
    refine fx_val (v := .slice A ((allL n L).length) cap) fr rfl rfl (by first | decide | simp) (x_assign rfl (fr.ev rfl)) ?_
    clear fr a; intro a fr
    refine wpList_nil ?_
    refine fx_next ?_
    refine wp_ret ?_
    refine fx_retM1 fr g_D46 hD_D46 [.tmp 2] [.slice A ((allL n L).length) cap] rfl rfl ?_
    intro wE hT
    replace H := H.turn hT
    replace Bn7 := Bn7.turn hT
    replace H10 := H10.turn hT
    replace Bn17 := Bn17.turn hT
    replace H20 := H20.turn hT
    replace Bo := Bo.turn hT
    replace Oc := Oc.turn hT
    replace hF := hF.turn hT (Nat.le_refl _)
    refine ⟨⟨rfl, trivial⟩, ?_⟩
    exact ⟨_, rfl, A, cap, rfl, Oc, (fun g hg => (gA_A g hg).resolve_left id), hF⟩
  · skip
    exact fun _ _ _ _ _ _ h _ _ _ => h.elim
set_option maxRecDepth 100000 in
set_option maxHeartbeats 4000000 in
theorem lall_nil (w : World) : Calls Try.prog 24 #[.pointer none] w (Ret fun v w' => ∃ A' cap', v = .slice A' 0 cap' ∧ New w w') := by
  have hF := Only.refl (fun _ => False) w
  refine fx_enterM Try.func24 rfl (N := (16, [])) (T := [(0, .pointer none)]) rfl (show 1 ≤ 16 by decide) ⟨rfl, trivial⟩ fun a fr => ?_
  refine wp_seq ?_
  refine wp_region_lit ?_  -- region 0
  refine fx_val (v := .slice none 0 0) fr rfl rfl (by first | decide | simp) (x_assign rfl rfl) ?_
  clear fr a; intro a fr
  refine wpList_nil ?_
  refine fx_next ?_
  refine wp_seq ?_
  refine wp_region_lit ?_  -- region 1
  refine fx_new fr rfl rfl (by first | decide | simp) (x_alloc (z := .slice none 0 0) (cs := #[.slice none 0 0]) rfl (by kernel_rfl) rfl) ?_
  clear fr a
  intro b1 w2 hN3 B4 hb5 a fr
  have g_b1 := Nat.le_trans hF.size hb5
  replace hF := hF.trNew hN3
  refine wpList_nil ?_
  refine fx_next ?_
  refine wp_seq ?_
  refine wp_seq ?_
  refine wp_region_lit ?_  -- region 2
  refine fx_val (v := .pointer none) fr rfl rfl (by first | decide | simp) (x_move rfl (fr.ev rfl)) ?_
  clear fr a; intro a fr
  refine fx_call fr rfl rfl (by first | decide | simp) (x_call (vs := [.pointer none]) rfl rfl ⟨(fr.ev rfl), trivial⟩ Try.func28 nm28 rfl) (all_nil _) ?_
  clear fr a
  rintro v w9 ⟨bn6, rfl, Bn7, hb8, hN10⟩ a fr
  have ne_b1_bn6 : NE b1 bn6 := NE.mk (Nat.lt_of_lt_of_le B4.lt hb8)
  have g_bn6 := Nat.le_trans hF.size hb8
  replace B4 := B4.new hN10
  replace hF := hF.trNew hN10
  refine fx_val (v := .bool false) fr rfl rfl (by first | decide | simp) (x_feql Try.underlying64 rfl (fr.ev rfl) rfl) ?_
  clear fr a; intro a fr
  refine wpList_nil ?_
  refine fx_next ?_
  refine fx_cond_f fr rfl ?_
  refine wp_skip ?_
  refine fx_next ?_
  refine wp_seq ?_
  refine wp_seq ?_
  refine wp_region_lit ?_  -- region 4
  refine fx_val (v := .pointer none) fr rfl rfl (by first | decide | simp) (x_move rfl (fr.ev rfl)) ?_
  clear fr a; intro a fr
  refine fx_call fr rfl rfl (by first | decide | simp) (x_call (vs := [.pointer none]) rfl rfl ⟨(fr.ev rfl), trivial⟩ Try.func28 nm28 rfl) (all_nil _) ?_
  clear fr a
  rintro v w14 ⟨bn11, rfl, Bn12, hb13, hN15⟩ a fr
  have ne_b1_bn11 : NE b1 bn11 := NE.mk (Nat.lt_of_lt_of_le B4.lt hb13)
  have ne_bn6_bn11 : NE bn6 bn11 := NE.mk (Nat.lt_of_lt_of_le Bn7.lt hb13)
  have g_bn11 := Nat.le_trans hF.size hb13
  replace B4 := B4.new hN15
  replace Bn7 := Bn7.new hN15
  replace hF := hF.trNew hN15
  refine wpList_nil ?_
  refine fx_next ?_
  refine wp_block ?_
  have lt_b1 := B4.lt
  refine fx_range (xs := ([] : List Ln)) (e := fun x : Ln => Value.agg (lnE.arr x)) fr rfl (by decide) (enters_of Try.func40 nm40 rfl) (SI := fun k => k = b1 ∨ w14.heap.size ≤ k) (fun _ h => .inr h) (all_stops_nil Bn12) (fun pre W => ∃ A : Option Addr, ∃ cap : Nat, Blk W b1 26 #[.slice A pre.length cap] ∧ Own lnE W A cap pre ∧ Only (fun k => k = b1) w14 W ∧ ∀ g, inA A g → w14.heap.size ≤ g) (fun c pre W => False) (fun x a' W => ∃ b16 : Nat, Blk W b16 39 (lnE.arr x) ∧ w14.heap.size ≤ b16 ∧ Fr (16, []) [(0, .pointer none), (2, .slice none 0 0), (3, .pointer (some ⟨b1, 0, none⟩)), (5, .pointer none), (6, .func (.func 40) #[] #[.pointer (some ⟨bn6, 0, none⟩)]), (7, .bool false), (8, .pointer none), (9, .func (.func 40) #[] #[.pointer (some ⟨bn11, 0, none⟩)]), (10, .agg (lnE.arr x)), (4, .pointer (some ⟨b16, 0, none⟩))] a') ?_ ?_ ?_ ?_ ⟨none, 0, B4, Own.nil, Only.refl _ _, (fun g hg => absurd hg (apart_none g))⟩ ?_ ?_ ?_ ?_
  · rintro pre W W' ⟨A, cap, Bo, Oc, hC, hg_A⟩ hT; exact ⟨A, cap, Bo.turn hT, Oc.turn hT, hC.turn hT (Nat.le_refl _), hg_A⟩
  · exact fun _ _ _ _ h _ => h.elim
  · rintro x a' _ W W' ⟨b16, B19, h_b16, hf⟩ hT; exact ⟨b16, B19.turn hT, h_b16, hf⟩
  · rintro pre W W' ⟨A, cap, Bo, Oc, hC, hg_A⟩ hN; exact ⟨A, cap, Bo.new hN, Oc.new hN, hC.trNew hN, hg_A⟩
  · skip
    rintro l pre x W K ⟨A, cap, Bo, Oc, hC, hg_A⟩ hK a fr
    have hF := Only.refl (fun _ => False) W
    refine fxr_region (by kernel_rfl) (by rintro ⟨_, _, h⟩; exact h) ?_  -- region 5
    refine fx_new fr rfl rfl (by first | decide | simp) (x_alloc (z := .agg (#[.int .u32 0, .int .i64 0, .int .u8 0, .int .u8 0, .int .u8 0, .int .u8 0, .int .u8 0, .int .u8 0, .int .u8 0, .int .u8 0, .int .u8 0, .int .u8 0, .int .u8 0, .int .u8 0, .int .u8 0, .int .u8 0, .int .u8 0, .int .u8 0])) (cs := lnE.arr ln0) rfl (by kernel_rfl) rfl) ?_
    clear fr a
    intro b16 w17 hN18 B19 hb20 a fr
    have g_b16 := Nat.le_trans hF.size hb20
    replace hF := hF.trNew hN18
    refine fx_storeS sz39 rfl rfl rfl (fr.ev rfl) (fr.ev rfl) (lnE.all _) B19 (lnE.size _) (lnE.size _) fun w21 hO22 hBq => ?_
    replace hF := hF.loc hO22 (.inr g_b16)
    replace B19 := hBq
    clear hBq
    refine wpList_nil ?_
    refine hK _ _ hF ⟨b16, B19, Nat.le_trans hC.size g_b16, fr.sub ⟨rfl, rfl, rfl, rfl, rfl, rfl, rfl, rfl, rfl, rfl, trivial⟩⟩
  · skip
    rintro lq pre x a W ⟨A, cap, Bo, Oc, hC, hg_A⟩ ⟨b16, B19, h_b16, fr⟩ hlen
    have ne_b1_b16 : NE b1 b16 := NE.mk (Nat.lt_of_lt_of_le lt_b1 h_b16)
    have ap_A_b1 : Apart A b1 := fun h => by have := hg_A _ h; omega
    have cl_b1 := Bo.cells
    have cl_A := fun g (hg : inA A g) => Oc.cells hg
    have hF := Only.refl (fun k => k = b1 ∨ inA A k) W
    have gA_A : ∀ g, inA A g → (fun k => k = b1 ∨ inA A k) g ∨ W.heap.size ≤ g := fun g hg => .inl (Or.inr (hg))
    have hcl : ∀ k, k < W.heap.size → (fun k => k = b1 ∨ inA A k) k → (fun k => k = b1 ∨ w14.heap.size ≤ k) k ∧ ∃ o : Obj, W.heap[k]? = some o ∧ o.isCells = true := by
      rintro k _ (rfl | hs)
      · exact ⟨Or.inl rfl, cl_b1⟩
      · exact ⟨Or.inr (hg_A k hs), cl_A k hs⟩
    have hSS : ∀ k, k < w14.heap.size → (fun k => k = b1 ∨ inA A k) k → (fun k => k = b1) k := by
      rintro k hk (rfl | hs)
      · exact rfl
      · have := hg_A k hs; omega
    exact absurd hlen (by simp)
  · skip
    rintro D23 W1 hD ⟨A, cap, Bo, Oc, hC, hg_A⟩ hD_D23 a fr
    have g_D23 := Nat.le_trans hF.size hD
    have ap_A_b1 : Apart A b1 := fun h => by have := hg_A _ h; have := lt_b1; omega
    have ap_A_bn6 : Apart A bn6 := new_apart hg_A Bn7.lt
    have ap_A_bn11 : Apart A bn11 := new_apart hg_A Bn12.lt
    have gA_A := gA_new hF hg_A
    replace Bn7 := Bn7.only hC (by first | exact ne_bn6_b1 | exact ne_b1_bn6.symm | (show ¬ bn6 = b1; omega))
    replace Bn12 := Bn12.only hC (by first | exact ne_bn11_b1 | exact ne_b1_bn11.symm | (show ¬ bn11 = b1; omega))
    replace hF := hF.loc hC (.inr g_b1)
    have ne_bn6_D23 := Bn7.mark hD_D23
    have ne_bn11_D23 := Bn12.mark hD_D23
    have ne_b1_D23 := Bo.mark hD_D23
    have ap_A_D23 := Oc.mark hD_D23
    refine fx_blk ?_
    refine fx_next ?_
    refine wp_seq ?_
    refine wp_region_lit ?_  -- region 7
    refine fx_val (v := .slice A ((([] : List Ln)).length) cap) fr rfl rfl (by first | decide | simp) (x_load1 pl26 rfl (fr.ev rfl) (Bo.cell 0 rfl)) ?_
    clear fr a; intro a fr
    refine fx_val (v := .slice A ((([] : List Ln)).length) cap) fr rfl rfl (by first | decide | simp) (x_assign rfl (fr.ev rfl)) ?_
    clear fr a; intro a fr
    refine wpList_nil ?_
    refine fx_next ?_
    refine wp_ret ?_
    refine fx_retM1 fr g_D23 hD_D23 [.tmp 2] [.slice A ((([] : List Ln)).length) cap] rfl rfl ?_
    intro wE hT
    replace Bn7 := Bn7.turn hT
    replace Bn12 := Bn12.turn hT
    replace Bo := Bo.turn hT
    replace Oc := Oc.turn hT
    replace hF := hF.turn hT (Nat.le_refl _)
    refine ⟨⟨rfl, trivial⟩, ?_⟩
    exact ⟨_, rfl, A, cap, rfl, hF⟩
  · skip
    exact fun _ _ _ _ _ _ h _ _ _ => h.elim
set_option maxRecDepth 100000 in
set_option maxHeartbeats 4000000 in
theorem len_c {w : World} {Fp : Nat → Prop} {b n : Nat} {ways : Int} {L : List Ln} (H : LinesAt w Fp b n ways L) (hl : L.length ≤ 100000) : Calls Try.prog 25 #[.pointer (some ⟨b, 0, none⟩)] w (Ret fun v w' => v = .int .i64 ((L.length : Nat) : Int) ∧ New w w') := by
  have hxs := allL_len (H.bd).1 L
  have hF := Only.refl (fun _ => False) w
  refine fx_enterM Try.func25 rfl (N := (10, [])) (T := [(0, .pointer (some ⟨b, 0, none⟩))]) rfl (show 1 ≤ 10 by decide) ⟨rfl, trivial⟩ fun a fr => ?_
  refine wp_seq ?_
  refine wp_region_lit ?_  -- region 0
  refine fx_val (v := .int .i64 0) fr rfl rfl (by first | decide | simp) (x_assign rfl rfl) ?_
  clear fr a; intro a fr
  refine wpList_nil ?_
  refine fx_next ?_
  refine wp_seq ?_
  refine wp_region_lit ?_  -- region 1
  refine fx_new fr rfl rfl (by first | decide | simp) (x_alloc (z := .int .i64 0) (cs := #[.int .i64 0]) rfl (by kernel_rfl) rfl) ?_
  clear fr a
  intro b1 w2 hN3 B4 hb5 a fr
  have ap_Fp_b1 : ¬ Fp b1 := H.apart hb5
  have g_b1 := Nat.le_trans hF.size hb5
  replace H := H.new hN3
  replace hF := hF.trNew hN3
  refine fx_store1 sz3 rfl rfl rfl (fr.ev rfl) rfl rfl B4 (show 0 < 1 by decide) (cs' := #[.int .i64 0]) rfl fun w6 hO7 hBq => ?_
  replace H := H.only hO7 (ne1P ap_Fp_b1)
  replace hF := hF.loc hO7 (.inr g_b1)
  replace B4 := hBq
  clear hBq
  refine wpList_nil ?_
  refine fx_next ?_
  refine wp_seq ?_
  refine wp_seq ?_
  refine wp_region_lit ?_  -- region 2
  refine fx_val (v := .pointer (some ⟨b, 0, none⟩)) fr rfl rfl (by first | decide | simp) (x_move rfl (fr.ev rfl)) ?_
  clear fr a; intro a fr
  refine fx_call fr rfl rfl (by first | decide | simp) (x_call (vs := [.pointer (some ⟨b, 0, none⟩)]) rfl rfl ⟨(fr.ev rfl), trivial⟩ Try.func28 nm28 rfl) (all_c H) ?_
  clear fr a
  rintro v w16 ⟨bn8, b10, Fp11, rfl, Bn9, H12, hb13, hf14, hx15, hN17⟩ a fr
  have ap_Fp_bn8 : ¬ Fp bn8 := H.apart hb13
  have ne_b1_bn8 : NE b1 bn8 := NE.mk (Nat.lt_of_lt_of_le B4.lt hb13)
  have g_bn8 := Nat.le_trans hF.size hb13
  have ap2_Fp_Fp11 : ∀ k, Fp k → Fp11 k → False := symP (new_apart2P hf14 fun _ hg => H.lt hg)
  have ap_Fp11_b1 : ¬ Fp11 b1 := new_apartP hf14 B4.lt
  have gA_Fp11 := gA_newP hF hf14
  replace H := H.new hN17
  replace B4 := B4.new hN17
  replace hF := hF.trNew hN17
  have ap_Fp11_bn8 : ¬ Fp11 bn8 := hx15
  refine wpList_nil ?_
  refine fx_next ?_
  refine wp_block ?_
  have lt_b1 := B4.lt
  refine fx_range (xs := allL n L) (e := fun x : Ln => Value.agg (lnE.arr x)) fr rfl (by decide) (enters_of Try.func40 nm40 rfl) (SI := fun k => k = b1 ∨ w16.heap.size ≤ k) (fun _ h => .inr h) (all_stops H12 Bn9 (fun h => h.elim (by first | exact ne_bn8_b1 | exact ne_b1_bn8.symm | (show ¬ bn8 = b1; omega)) (fun h => by have := Bn9.lt; omega)) (fun g hg => (fun h => h.elim ((ne1P ap_Fp11_b1) g hg) (fun h => by have := H12.lt hg; omega)))) (fun pre W => Blk W b1 3 #[.int .i64 ((pre.length : Nat) : Int)] ∧ Only (fun k => k = b1) w16 W) (fun c pre W => False) (fun x a' W => Fr (10, []) [(0, .pointer (some ⟨b, 0, none⟩)), (2, .int .i64 0), (3, .pointer (some ⟨b1, 0, none⟩)), (4, .pointer (some ⟨b, 0, none⟩)), (5, .func (.func 40) #[] #[.pointer (some ⟨bn8, 0, none⟩)]), (6, .agg (lnE.arr x))] a') ?_ ?_ ?_ ?_ ⟨B4, Only.refl _ _⟩ ?_ ?_ ?_ ?_
  · rintro pre W W' ⟨Bo, hC⟩ hT; exact ⟨Bo.turn hT, hC.turn hT (Nat.le_refl _)⟩
  · exact fun _ _ _ _ h _ => h.elim
  · exact fun _ _ _ _ _ h _ => h
  · rintro pre W W' ⟨Bo, hC⟩ hN; exact ⟨Bo.new hN, hC.trNew hN⟩
  · skip
    rintro l pre x W K ⟨Bo, hC⟩ hK a fr
    have hF := Only.refl (fun _ => False) W
    refine wpIn_skip ?_
    exact hK _ _ hF (fr.sub ⟨rfl, rfl, rfl, rfl, rfl, rfl, trivial⟩)
  · skip
    rintro lq pre x a W ⟨Bo, hC⟩ fr hlen
    have cl_b1 := Bo.cells
    have hF := Only.refl (fun k => k = b1) W
    have hcl : ∀ k, k < W.heap.size → (fun k => k = b1) k → (fun k => k = b1 ∨ w16.heap.size ≤ k) k ∧ ∃ o : Obj, W.heap[k]? = some o ∧ o.isCells = true := by
      rintro k _ (rfl)
      exact ⟨Or.inl rfl, cl_b1⟩
    have hSS : ∀ k, k < w16.heap.size → (fun k => k = b1) k → (fun k => k = b1) k := by
      rintro k hk (rfl)
      exact rfl
    have hxl : pre.length ≤ 100000 := by have := hxs; omega
    refine wpIn_block ?_
    refine fxr_region (by kernel_rfl) (by rintro ⟨_, _, h⟩; exact h) ?_  -- region 3
    refine fx_val (v := .int .i64 ((pre.length : Nat) : Int)) fr rfl rfl (by first | decide | simp) (x_load1 pl3 rfl (fr.ev rfl) (Bo.cell 0 rfl)) ?_
    clear fr a; intro a fr
    refine fx_val (v := .int .i64 ((pre.length + 1 : Nat) : Int)) fr rfl rfl (by first | decide | simp) (x_add rfl (fr.ev rfl) rfl (i64w (r := ((pre.length + 1 : Nat) : Int)) (by omega) (by omega))) ?_
    clear fr a; intro a fr
    refine fx_store1 sz3 rfl rfl rfl (fr.ev rfl) (fr.ev rfl) rfl Bo (show 0 < 1 by decide) (cs' := #[.int .i64 ((pre.length + 1 : Nat) : Int)]) rfl fun w18 hO19 hBq => ?_
    replace hF := hF.loc hO19 (.inl (rfl))
    replace Bo := hBq
    clear hBq
    refine wpList_nil ?_
    refine fx_blk ?_
    exact ⟨⟨_, hF, hcl⟩, (by rw [List.length_append]; exact Bo), hC.trans hF hSS⟩
  · skip
    rintro D20 W1 hD ⟨Bo, hC⟩ hD_D20 a fr
    have g_D20 := Nat.le_trans hF.size hD
    replace H := H.only hC (ne1P ap_Fp_b1)
    replace Bn9 := Bn9.only hC (by first | exact ne_bn8_b1 | exact ne_b1_bn8.symm | (show ¬ bn8 = b1; omega))
    replace H12 := H12.only hC (ne1P ap_Fp11_b1)
    replace hF := hF.loc hC (.inr g_b1)
    have ne_bn8_D20 := Bn9.mark hD_D20
    have ne_b1_D20 := Bo.mark hD_D20
    refine fx_blk ?_
    refine fx_next ?_
    refine wp_seq ?_
    refine wp_region_lit ?_  -- region 4
    refine fx_val (v := .int .i64 (((allL n L).length : Nat) : Int)) fr rfl rfl (by first | decide | simp) (x_load1 pl3 rfl (fr.ev rfl) (Bo.cell 0 rfl)) ?_
    clear fr a; intro a fr
    refine fx_val (v := .int .i64 (((allL n L).length : Nat) : Int)) fr rfl rfl (by first | decide | simp) (x_assign rfl (fr.ev rfl)) ?_
    clear fr a; intro a fr
    refine wpList_nil ?_
    refine fx_next ?_
    refine wp_ret ?_
    refine fx_retM1 fr g_D20 hD_D20 [.tmp 2] [.int .i64 (((allL n L).length : Nat) : Int)] rfl rfl ?_
    intro wE hT
    replace H := H.turn hT
    replace Bn9 := Bn9.turn hT
    replace H12 := H12.turn hT
    replace Bo := Bo.turn hT
    replace hF := hF.turn hT (Nat.le_refl _)
    refine ⟨⟨rfl, trivial⟩, ?_⟩
    rw [← hxs]
    exact ⟨_, rfl, rfl, hF⟩
  · skip
    exact fun _ _ _ _ _ _ h _ _ _ => h.elim
set_option maxRecDepth 100000 in
set_option maxHeartbeats 4000000 in
theorem len_nil (w : World) : Calls Try.prog 25 #[.pointer none] w (Ret fun v w' => v = .int .i64 0 ∧ New w w') := by
  have hF := Only.refl (fun _ => False) w
  refine fx_enterM Try.func25 rfl (N := (10, [])) (T := [(0, .pointer none)]) rfl (show 1 ≤ 10 by decide) ⟨rfl, trivial⟩ fun a fr => ?_
  refine wp_seq ?_
  refine wp_region_lit ?_  -- region 0
  refine fx_val (v := .int .i64 0) fr rfl rfl (by first | decide | simp) (x_assign rfl rfl) ?_
  clear fr a; intro a fr
  refine wpList_nil ?_
  refine fx_next ?_
  refine wp_seq ?_
  refine wp_region_lit ?_  -- region 1
  refine fx_new fr rfl rfl (by first | decide | simp) (x_alloc (z := .int .i64 0) (cs := #[.int .i64 0]) rfl (by kernel_rfl) rfl) ?_
  clear fr a
  intro b1 w2 hN3 B4 hb5 a fr
  have g_b1 := Nat.le_trans hF.size hb5
  replace hF := hF.trNew hN3
  refine fx_store1 sz3 rfl rfl rfl (fr.ev rfl) rfl rfl B4 (show 0 < 1 by decide) (cs' := #[.int .i64 0]) rfl fun w6 hO7 hBq => ?_
  replace hF := hF.loc hO7 (.inr g_b1)
  replace B4 := hBq
  clear hBq
  refine wpList_nil ?_
  refine fx_next ?_
  refine wp_seq ?_
  refine wp_seq ?_
  refine wp_region_lit ?_  -- region 2
  refine fx_val (v := .pointer none) fr rfl rfl (by first | decide | simp) (x_move rfl (fr.ev rfl)) ?_
  clear fr a; intro a fr
  refine fx_call fr rfl rfl (by first | decide | simp) (x_call (vs := [.pointer none]) rfl rfl ⟨(fr.ev rfl), trivial⟩ Try.func28 nm28 rfl) (all_nil _) ?_
  clear fr a
  rintro v w11 ⟨bn8, rfl, Bn9, hb10, hN12⟩ a fr
  have ne_b1_bn8 : NE b1 bn8 := NE.mk (Nat.lt_of_lt_of_le B4.lt hb10)
  have g_bn8 := Nat.le_trans hF.size hb10
  replace B4 := B4.new hN12
  replace hF := hF.trNew hN12
  refine wpList_nil ?_
  refine fx_next ?_
  refine wp_block ?_
  have lt_b1 := B4.lt
  refine fx_range (xs := ([] : List Ln)) (e := fun x : Ln => Value.agg (lnE.arr x)) fr rfl (by decide) (enters_of Try.func40 nm40 rfl) (SI := fun k => k = b1 ∨ w11.heap.size ≤ k) (fun _ h => .inr h) (all_stops_nil Bn9) (fun pre W => Blk W b1 3 #[.int .i64 ((pre.length : Nat) : Int)] ∧ Only (fun k => k = b1) w11 W) (fun c pre W => False) (fun x a' W => Fr (10, []) [(0, .pointer none), (2, .int .i64 0), (3, .pointer (some ⟨b1, 0, none⟩)), (4, .pointer none), (5, .func (.func 40) #[] #[.pointer (some ⟨bn8, 0, none⟩)]), (6, .agg (lnE.arr x))] a') ?_ ?_ ?_ ?_ ⟨B4, Only.refl _ _⟩ ?_ ?_ ?_ ?_
  · rintro pre W W' ⟨Bo, hC⟩ hT; exact ⟨Bo.turn hT, hC.turn hT (Nat.le_refl _)⟩
  · exact fun _ _ _ _ h _ => h.elim
  · exact fun _ _ _ _ _ h _ => h
  · rintro pre W W' ⟨Bo, hC⟩ hN; exact ⟨Bo.new hN, hC.trNew hN⟩
  · skip
    rintro l pre x W K ⟨Bo, hC⟩ hK a fr
    have hF := Only.refl (fun _ => False) W
    refine wpIn_skip ?_
    exact hK _ _ hF (fr.sub ⟨rfl, rfl, rfl, rfl, rfl, rfl, trivial⟩)
  · skip
    rintro lq pre x a W ⟨Bo, hC⟩ fr hlen
    have cl_b1 := Bo.cells
    have hF := Only.refl (fun k => k = b1) W
    have hcl : ∀ k, k < W.heap.size → (fun k => k = b1) k → (fun k => k = b1 ∨ w11.heap.size ≤ k) k ∧ ∃ o : Obj, W.heap[k]? = some o ∧ o.isCells = true := by
      rintro k _ (rfl)
      exact ⟨Or.inl rfl, cl_b1⟩
    have hSS : ∀ k, k < w11.heap.size → (fun k => k = b1) k → (fun k => k = b1) k := by
      rintro k hk (rfl)
      exact rfl
    exact absurd hlen (by simp)
  · skip
    rintro D13 W1 hD ⟨Bo, hC⟩ hD_D13 a fr
    have g_D13 := Nat.le_trans hF.size hD
    replace Bn9 := Bn9.only hC (by first | exact ne_bn8_b1 | exact ne_b1_bn8.symm | (show ¬ bn8 = b1; omega))
    replace hF := hF.loc hC (.inr g_b1)
    have ne_bn8_D13 := Bn9.mark hD_D13
    have ne_b1_D13 := Bo.mark hD_D13
    refine fx_blk ?_
    refine fx_next ?_
    refine wp_seq ?_
    refine wp_region_lit ?_  -- region 4
    refine fx_val (v := .int .i64 (((([] : List Ln)).length : Nat) : Int)) fr rfl rfl (by first | decide | simp) (x_load1 pl3 rfl (fr.ev rfl) (Bo.cell 0 rfl)) ?_
    clear fr a; intro a fr
    refine fx_val (v := .int .i64 (((([] : List Ln)).length : Nat) : Int)) fr rfl rfl (by first | decide | simp) (x_assign rfl (fr.ev rfl)) ?_
    clear fr a; intro a fr
    refine wpList_nil ?_
    refine fx_next ?_
    refine wp_ret ?_
    refine fx_retM1 fr g_D13 hD_D13 [.tmp 2] [.int .i64 (((([] : List Ln)).length : Nat) : Int)] rfl rfl ?_
    intro wE hT
    replace Bn9 := Bn9.turn hT
    replace Bo := Bo.turn hT
    replace hF := hF.turn hT (Nat.le_refl _)
    refine ⟨⟨rfl, trivial⟩, ?_⟩
    exact ⟨_, rfl, rfl, hF⟩
  · skip
    exact fun _ _ _ _ _ _ h _ _ _ => h.elim
end Go.Proofs.Ytdjgfkjcpalihaa
