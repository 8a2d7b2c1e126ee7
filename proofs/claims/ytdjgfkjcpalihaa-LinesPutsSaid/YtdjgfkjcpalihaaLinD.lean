/-
  Victim, New, Copy. Printed by gen_d.py.
-/
import Derived.Test.YtdjgfkjcpalihaaLinC
namespace Go.Proofs.Ytdjgfkjcpalihaa
open Go.RowKit

set_option maxRecDepth 100000 in
set_option maxHeartbeats 4000000 in
theorem victim_c (number : Int) (hnum : 0 ≤ number ∧ number < 4294967296) (pick : Int) {w : World} {Fp : Nat → Prop} {b n : Nat} {ways : Int} {L : List Ln} (H : LinesAt w Fp b n ways L) : Calls Try.prog 15 #[.pointer (some ⟨b, 0, none⟩), .int .u32 number, .int .i64 pick] w (Ret fun v w' => v = .tuple #[.agg (lnE.arr ((vicL n ways L number pick).getD ln0)), .bool (vicL n ways L number pick).isSome] ∧ New w w') := by
  obtain ⟨S, FpR, rs, hB, hS, hR, hP⟩ := H
  have ne_b_S := hP.ne
  have ap_FpR_b := hP.apb
  have ap_FpR_S := hP.apS
  have hlen := hP.len
  obtain ⟨hn1, hn2, hw1, hw2⟩ := hP.bd
  have hsl := si_lt (n := n) (num := number) hn1
  obtain ⟨rA, rc, rl, hr⟩ : ∃ A9 c9 l9, rs.getD (si n number) r0 = ⟨A9, c9, l9⟩ := ⟨_, _, _, rfl⟩
  have hrl : rl = ofs n L (si n number) := by have := hP.row _ hsl; rw [hr] at this; exact this
  have hrow := hP.fits _ hsl
  rw [← hrl] at hrow
  have hF := Only.refl (fun _ => False) w
  refine fx_enter Try.func15 rfl (N := (45, [])) (T := [(0, .pointer (some ⟨b, 0, none⟩)), (1, .int .u32 number), (2, .int .i64 pick)]) rfl (show 3 ≤ 45 by decide) ⟨rfl, rfl, rfl, trivial⟩ fun a fr => ?_
  refine wp_seq ?_
  refine wp_region_lit ?_  -- region 0
  refine fx_new fr rfl rfl (by first | decide | simp) (x_alloc (z := .agg (#[.int .u32 0, .int .i64 0, .int .u8 0, .int .u8 0, .int .u8 0, .int .u8 0, .int .u8 0, .int .u8 0, .int .u8 0, .int .u8 0, .int .u8 0, .int .u8 0, .int .u8 0, .int .u8 0, .int .u8 0, .int .u8 0, .int .u8 0, .int .u8 0])) (cs := lnE.arr ln0) rfl (by kernel_rfl) rfl) ?_
  clear fr a
  intro b1 w2 hN3 B4 hb5 a fr
  have ne_b_b1 : NE b b1 := NE.mk (Nat.lt_of_lt_of_le hB.lt hb5)
  have ne_S_b1 : NE S b1 := NE.mk (Nat.lt_of_lt_of_le hS.lt hb5)
  have ap_FpR_b1 : ¬ FpR b1 := hR.apart hb5
  have g_b1 := Nat.le_trans hF.size hb5
  replace hB := hB.new hN3
  replace hS := hS.new hN3
  replace hR := hR.new hN3
  replace hF := hF.trNew hN3
  refine fx_val (v := .bool false) fr rfl rfl (by first | decide | simp) (x_assign rfl rfl) ?_
  clear fr a; intro a fr
  refine wpList_nil ?_
  refine fx_next ?_
  refine wp_seq ?_
  refine wp_seq ?_
  refine wp_region_lit ?_  -- region 1
  refine fx_val (v := .pointer (some ⟨b, 0, none⟩)) fr rfl rfl (by first | decide | simp) (x_move rfl (fr.ev rfl)) ?_
  clear fr a; intro a fr
  refine fx_call fr rfl rfl (by first | decide | simp) (x_call (vs := [.pointer (some ⟨b, 0, none⟩)]) rfl rfl ⟨(fr.ev rfl), trivial⟩ Try.func31 nm31 rfl) (none_some hB (by omega)) ?_
  clear fr a
  rintro v w9 ⟨rfl, hw9⟩ a fr
  obtain rfl := hw9.symm
  refine wpList_nil ?_
  refine fx_next ?_
  refine fx_cond_f fr rfl ?_
  refine wp_skip ?_
  refine fx_next ?_
  refine wp_seq ?_
  refine wp_region_lit ?_  -- region 2
  refine fx_val (v := .pointer (some ⟨b, 0, none⟩)) fr rfl rfl (by first | decide | simp) (x_move rfl (fr.ev rfl)) ?_
  clear fr a; intro a fr
  refine fx_val (v := .int .u32 number) fr rfl rfl (by first | decide | simp) (x_move rfl (fr.ev rfl)) ?_
  clear fr a; intro a fr
  refine fx_call fr rfl rfl (by first | decide | simp) (x_call (vs := [.pointer (some ⟨b, 0, none⟩), .int .u32 number]) rfl rfl ⟨(fr.ev rfl), (fr.ev rfl), trivial⟩ Try.func32 nm32 rfl) (of_c number (by omega) hB hS hR hlen (by omega) hr) ?_
  clear fr a
  rintro v w8 ⟨rfl, hN9⟩ a fr
  replace hB := hB.new hN9
  replace hS := hS.new hN9
  replace hR := hR.new hN9
  replace B4 := B4.new hN9
  replace hF := hF.trNew hN9
  refine fx_val (v := .tuple #[.pointer (some ⟨S, si n number, none⟩), .int .i64 (fndI rl number)]) fr rfl rfl (by first | decide | simp) (x_move rfl (fr.ev rfl)) ?_
  clear fr a; intro a fr
  refine fx_val (v := .pointer (some ⟨S, si n number, none⟩)) fr rfl rfl (by first | decide | simp) (x_extract rfl (fr.ev rfl) rfl) ?_
  clear fr a; intro a fr
  refine fx_val (v := .int .i64 (fndI rl number)) fr rfl rfl (by first | decide | simp) (x_extract rfl (fr.ev rfl) rfl) ?_
  clear fr a; intro a fr
  refine fx_val (v := .pointer (some ⟨S, si n number, none⟩)) fr rfl rfl (by first | decide | simp) (x_assign rfl (fr.ev rfl)) ?_
  clear fr a; intro a fr
  refine fx_val (v := .int .i64 (fndI rl number)) fr rfl rfl (by first | decide | simp) (x_assign rfl (fr.ev rfl)) ?_
  clear fr a; intro a fr
  refine wpList_nil ?_
  refine fx_next ?_
  refine wp_seq ?_
  rcases fnd_spec rl number with ⟨hf, hno⟩ | ⟨i, hf, hi, hin, hall⟩
  · skip
    rw [hf] at fr
    have hg : getN L number = none := by rw [← ofs_get (n := n), ← hrl]; exact fnd_none ⟨hf, hno⟩
    refine wp_region_lit ?_  -- region 3
    refine fx_val (v := .pointer (some ⟨S, si n number, none⟩)) fr rfl rfl (by first | decide | simp) (x_move rfl (fr.ev rfl)) ?_
    clear fr a; intro a fr
    refine fx_val (v := .pointer (some ⟨S, si n number, none⟩)) fr rfl rfl (by first | decide | simp) (x_nilCheck rfl (fr.ev rfl)) ?_
    clear fr a; intro a fr
    refine fx_val (v := .slice rA rl.length rc) fr rfl rfl (by first | decide | simp) (x_load1 pl26 rfl (fr.ev rfl) (hS.cell (si n number) (rows_cellAt (by omega) hr))) ?_
    clear fr a; intro a fr
    refine fx_val (v := .int .i64 ((rl.length : Nat) : Int)) fr rfl rfl (by first | decide | simp) (x_len Try.underlying26 rfl (fr.ev rfl)) ?_
    clear fr a; intro a fr
    refine fx_val (v := .int .i64 ((rl.length : Nat) : Int)) fr rfl rfl (by first | decide | simp) (x_assign rfl (fr.ev rfl)) ?_
    clear fr a; intro a fr
    refine wpList_nil ?_
    refine fx_next ?_
    refine wp_seq ?_
    refine wp_seq ?_
    refine wp_region_lit ?_  -- region 4
    refine fx_val (v := .int .i64 (-1)) fr rfl rfl (by first | decide | simp) (x_move rfl (fr.ev rfl)) ?_
    clear fr a; intro a fr
    refine fx_val (v := .bool false) fr rfl rfl (by first | decide | simp) (x_geq rfl (fr.ev rfl) rfl rfl) ?_
    clear fr a; intro a fr
    refine fx_val (v := .bool false) fr rfl rfl (by first | decide | simp) (x_move rfl (fr.ev rfl)) ?_
    clear fr a; intro a fr
    refine fx_val (v := .int .i64 ((rl.length : Nat) : Int)) fr (fr.want rfl rfl rfl) rfl (by first | decide | simp) (x_move rfl (fr.ev rfl)) ?_
    clear fr a; intro a fr
    refine fx_val (v := .pointer (some ⟨b, 0, none⟩)) fr (fr.want rfl rfl rfl) rfl (by first | decide | simp) (x_move rfl (fr.ev rfl)) ?_
    clear fr a; intro a fr
    refine fx_val (v := .pointer (some ⟨b, 0, none⟩)) fr (fr.want rfl rfl rfl) rfl (by first | decide | simp) (x_nilCheck rfl (fr.ev rfl)) ?_
    clear fr a; intro a fr
    refine fx_val (v := .pointer (some ⟨b, 1, none⟩)) fr (fr.want rfl rfl rfl) rfl (by first | decide | simp) (x_fieldAddr fo74_1 rfl (fr.ev rfl) rfl) ?_
    clear fr a; intro a fr
    refine fx_val (v := .int .i64 ways) fr (fr.want rfl rfl rfl) rfl (by first | decide | simp) (x_load1 pl3 rfl (fr.ev rfl) (hB.cell 1 rfl)) ?_
    clear fr a; intro a fr
    refine fx_val (v := .bool (decide (((rl.length : Nat) : Int) < ways))) fr (fr.want rfl rfl rfl) rfl (by first | decide | simp) (x_lss rfl (fr.ev rfl) (fr.ev rfl) rfl) ?_
    clear fr a; intro a fr
    refine fx_val (v := .bool (decide (((rl.length : Nat) : Int) < ways))) fr rfl rfl (by first | decide | simp) (x_pick_f rfl (fr.ev rfl) (fr.ev rfl)) ?_
    clear fr a; intro a fr
    refine wpList_nil ?_
    refine fx_next ?_
    refine fx_cond fr rfl (fun hc10 => ?_) (fun hc10 => ?_)
    · skip
      have hc10 := of_decide_eq_true hc10
      refine wp_ret ?_
      refine fx_rt ?_
      refine fx_ret fr [.cell 6 39, .tmp 7] [.agg (lnE.arr ln0), .bool false] rfl ⟨⟨_, rfl, loadV_E (E := lnE) ag39 rfl (B4.rangeE lnE)⟩, rfl, trivial⟩ rfl ?_
      have hv : vicL n ways L number pick = none := by unfold vicL; rw [← hrl, if_neg (fun h => by omega)]
      rw [hv]
      exact ⟨_, rfl, rfl, hF⟩
    · skip
      have hc10 := of_decide_eq_false hc10
      refine wp_skip ?_
      refine fx_next ?_
      refine wp_seq ?_
      have hb := tmod_bd pick rl.length (by omega)
      have hp := pickAt_lt pick rl.length (by omega)
      refine fx_heldT (n := 12) (k := 12) (fun w => Blk w b 74 #[.slice (some ⟨S, 0, none⟩) n n, .int .i64 ways] ∧ Blk w S 26 (rowsArr rs) ∧ RowsAt w FpR rs ∧ Blk w b1 39 (lnE.arr ln0) ∧ True) (by kernel_rfl) (by kernel_rfl) rfl ?_  -- region 5
      intro w11 hN12
      replace hB := hB.new hN12
      replace hS := hS.new hN12
      replace hR := hR.new hN12
      replace B4 := B4.new hN12
      replace hF := hF.trNew hN12
      refine fx_take (i := 0) (v := .pointer (some ⟨S, si n number, none⟩)) fr rfl (by kernel_rfl) rfl rfl (by first | decide | simp) (fun _ _ _ h => h) (fun _ ⟨hB, hS, hR, B4, _⟩ => x_move rfl (fr.ev rfl)) ⟨hB, hS, hR, B4, trivial⟩ ?_
      clear fr a; intro a fr
      refine fx_take (i := 1) (v := .pointer (some ⟨S, si n number, none⟩)) fr rfl (by kernel_rfl) rfl rfl (by first | decide | simp) (fun _ _ _ h => h) (fun _ ⟨hB, hS, hR, B4, _⟩ => x_nilCheck rfl (fr.ev rfl)) ⟨hB, hS, hR, B4, trivial⟩ ?_
      clear fr a; intro a fr
      refine fx_take (i := 2) (v := .slice rA rl.length rc) fr rfl (by kernel_rfl) rfl rfl (by first | decide | simp) (fun _ _ _ h => h) (fun _ ⟨hB, hS, hR, B4, _⟩ => x_load1 pl26 rfl (fr.ev rfl) (hS.cell (si n number) (rows_cellAt (by omega) hr))) ⟨hB, hS, hR, B4, trivial⟩ ?_
      clear fr a; intro a fr
      refine fx_take (i := 3) (v := .int .i64 pick) fr rfl (by kernel_rfl) rfl rfl (by first | decide | simp) (fun _ _ _ h => h) (fun _ ⟨hB, hS, hR, B4, _⟩ => x_move rfl (fr.ev rfl)) ⟨hB, hS, hR, B4, trivial⟩ ?_
      clear fr a; intro a fr
      refine fx_take (i := 4) (v := .int .i64 ((rl.length : Nat) : Int)) fr rfl (by kernel_rfl) rfl rfl (by first | decide | simp) (fun _ _ _ h => h) (fun _ ⟨hB, hS, hR, B4, _⟩ => x_move rfl (fr.ev rfl)) ⟨hB, hS, hR, B4, trivial⟩ ?_
      clear fr a; intro a fr
      refine fx_take (i := 5) (v := .int .i64 (Int.tmod pick ((rl.length : Nat) : Int))) fr rfl (by kernel_rfl) rfl rfl (by first | decide | simp) (fun _ _ _ h => h) (fun _ ⟨hB, hS, hR, B4, _⟩ => x_rem rfl (fr.ev rfl) (fr.ev rfl) (by omega) rfl) ⟨hB, hS, hR, B4, trivial⟩ ?_
      clear fr a; intro a fr
      refine fx_take (i := 6) (v := .int .i64 ((rl.length : Nat) : Int)) fr rfl (by kernel_rfl) rfl rfl (by first | decide | simp) (fun _ _ _ h => h) (fun _ ⟨hB, hS, hR, B4, _⟩ => x_move rfl (fr.ev rfl)) ⟨hB, hS, hR, B4, trivial⟩ ?_
      clear fr a; intro a fr
      refine fx_take (i := 7) (v := .int .i64 (Int.tmod pick ((rl.length : Nat) : Int) + ((rl.length : Nat) : Int))) fr rfl (by kernel_rfl) rfl rfl (by first | decide | simp) (fun _ _ _ h => h) (fun _ ⟨hB, hS, hR, B4, _⟩ => x_add rfl (fr.ev rfl) (fr.ev rfl) (i64w (r := Int.tmod pick ((rl.length : Nat) : Int) + ((rl.length : Nat) : Int)) (by omega) (by omega))) ⟨hB, hS, hR, B4, trivial⟩ ?_
      clear fr a; intro a fr
      refine fx_take (i := 8) (v := .int .i64 ((rl.length : Nat) : Int)) fr rfl (by kernel_rfl) rfl rfl (by first | decide | simp) (fun _ _ _ h => h) (fun _ ⟨hB, hS, hR, B4, _⟩ => x_move rfl (fr.ev rfl)) ⟨hB, hS, hR, B4, trivial⟩ ?_
      clear fr a; intro a fr
      refine fx_take (i := 9) (v := .int .i64 ((pickAt pick rl.length : Nat) : Int)) fr rfl (by kernel_rfl) rfl rfl (by first | decide | simp) (fun _ _ _ h => h) (fun _ ⟨hB, hS, hR, B4, _⟩ => x_rem rfl (fr.ev rfl) (fr.ev rfl) (by omega) (pickAt_eq pick rl.length (by omega))) ⟨hB, hS, hR, B4, trivial⟩ ?_
      clear fr a; intro a fr
      obtain ⟨g13, o14, hA15⟩ := ((hR.at_ (by omega) hr).view).some_ (by omega)
      refine fx_take (i := 10) (v := .pointer (some ⟨g13, o14 + (pickAt pick rl.length) * 18, none⟩)) fr rfl (by kernel_rfl) rfl rfl (by first | decide | simp) (fun _ _ _ h => h) (fun _ ⟨hB, hS, hR, B4, _⟩ => x_indexV Try.underlying26 sz39 rfl (fr.ev rfl) hA15 (fr.ev rfl) (by omega) rfl) ⟨hB, hS, hR, B4, trivial⟩ ?_
      clear fr a; intro a fr
      refine fx_take (i := 11) (v := .agg (lnE.arr (rl.getD (pickAt pick rl.length) ln0))) fr rfl (by kernel_rfl) rfl rfl (by first | decide | simp) (fun _ _ _ h => h) (fun _ ⟨hB, hS, hR, B4, _⟩ => x_loadE (E := lnE) ag39 rfl rfl (fr.ev rfl) (((hR.at_ (by omega) hr).view).elem hA15 (pickAt pick rl.length) ln0 (by omega))) ⟨hB, hS, hR, B4, trivial⟩ ?_
      clear fr a; intro a fr
      refine fx_hdone (by kernel_rfl) ?_
      refine fx_tail ?_
      refine fx_storeS sz39 rfl rfl rfl (fr.ev rfl) (fr.ev rfl) (lnE.all _) B4 (lnE.size _) (lnE.size _) fun w16 hO17 hBq => ?_
      replace hB := hB.only hO17 (by first | exact ne_b_b1 | exact ne_b1_b.symm | (show ¬ b = b1; omega))
      replace hS := hS.only hO17 (by first | exact ne_S_b1 | exact ne_b1_S.symm | (show ¬ S = b1; omega))
      replace hR := hR.only hO17 (ne1P ap_FpR_b1)
      replace hF := hF.loc hO17 (.inr g_b1)
      replace B4 := hBq
      clear hBq
      refine fx_val (v := .bool true) fr rfl rfl (by first | decide | simp) (x_assign rfl rfl) ?_
      clear fr a; intro a fr
      refine wpList_nil ?_
      refine fx_next ?_
      refine wp_ret ?_
      refine fx_ret fr [.cell 6 39, .tmp 7] [.agg (lnE.arr (rl.getD (pickAt pick rl.length) ln0)), .bool true] rfl ⟨⟨_, rfl, loadV_E (E := lnE) ag39 rfl (B4.rangeE lnE)⟩, rfl, trivial⟩ rfl ?_
      have hv : vicL n ways L number pick = some (rl.getD (pickAt pick rl.length) ln0) := by unfold vicL; rw [← hrl, if_pos ⟨hg, by omega⟩]
      rw [hv]
      exact ⟨_, rfl, rfl, hF⟩
  · skip
    rw [hf] at fr
    have hi0 : ¬ ((i : Nat) : Int) < 0 := by omega
    have hi1 : 0 ≤ ((i : Nat) : Int) := by omega
    have hg : getN L number = some (rl.getD i ln0) := by rw [← ofs_get (n := n), ← hrl]; exact get_at hi hin hall
    refine wp_region_lit ?_  -- region 3
    refine fx_val (v := .pointer (some ⟨S, si n number, none⟩)) fr rfl rfl (by first | decide | simp) (x_move rfl (fr.ev rfl)) ?_
    clear fr a; intro a fr
    refine fx_val (v := .pointer (some ⟨S, si n number, none⟩)) fr rfl rfl (by first | decide | simp) (x_nilCheck rfl (fr.ev rfl)) ?_
    clear fr a; intro a fr
    refine fx_val (v := .slice rA rl.length rc) fr rfl rfl (by first | decide | simp) (x_load1 pl26 rfl (fr.ev rfl) (hS.cell (si n number) (rows_cellAt (by omega) hr))) ?_
    clear fr a; intro a fr
    refine fx_val (v := .int .i64 ((rl.length : Nat) : Int)) fr rfl rfl (by first | decide | simp) (x_len Try.underlying26 rfl (fr.ev rfl)) ?_
    clear fr a; intro a fr
    refine fx_val (v := .int .i64 ((rl.length : Nat) : Int)) fr rfl rfl (by first | decide | simp) (x_assign rfl (fr.ev rfl)) ?_
    clear fr a; intro a fr
    refine wpList_nil ?_
    refine fx_next ?_
    refine wp_seq ?_
    refine wp_seq ?_
    refine wp_region_lit ?_  -- region 4
    refine fx_val (v := .int .i64 ((i : Nat) : Int)) fr rfl rfl (by first | decide | simp) (x_move rfl (fr.ev rfl)) ?_
    clear fr a; intro a fr
    refine fx_val (v := .bool true) fr rfl rfl (by first | decide | simp) (x_geq rfl (fr.ev rfl) rfl (decide_eq_true hi1)) ?_
    clear fr a; intro a fr
    refine fx_val (v := .bool true) fr rfl rfl (by first | decide | simp) (x_move rfl (fr.ev rfl)) ?_
    clear fr a; intro a fr
    refine fx_skip fr (fr.unwant rfl rfl rfl (by decide)) rfl (by first | decide | simp) ?_
    clear fr a; intro a fr
    refine fx_skip fr (fr.unwant rfl rfl rfl (by decide)) rfl (by first | decide | simp) ?_
    clear fr a; intro a fr
    refine fx_skip fr (fr.unwant rfl rfl rfl (by decide)) rfl (by first | decide | simp) ?_
    clear fr a; intro a fr
    refine fx_skip fr (fr.unwant rfl rfl rfl (by decide)) rfl (by first | decide | simp) ?_
    clear fr a; intro a fr
    refine fx_skip fr (fr.unwant rfl rfl rfl (by decide)) rfl (by first | decide | simp) ?_
    clear fr a; intro a fr
    refine fx_skip fr (fr.unwant rfl rfl rfl (by decide)) rfl (by first | decide | simp) ?_
    clear fr a; intro a fr
    refine fx_val (v := .bool true) fr rfl rfl (by first | decide | simp) (x_pick_t rfl (fr.ev rfl) rfl) ?_
    clear fr a; intro a fr
    refine wpList_nil ?_
    refine fx_next ?_
    refine fx_cond_t fr rfl ?_
    refine wp_ret ?_
    refine fx_rt ?_
    refine fx_ret fr [.cell 6 39, .tmp 7] [.agg (lnE.arr ln0), .bool false] rfl ⟨⟨_, rfl, loadV_E (E := lnE) ag39 rfl (B4.rangeE lnE)⟩, rfl, trivial⟩ rfl ?_
    have hv : vicL n ways L number pick = none := by unfold vicL; rw [if_neg (fun h => by rw [hg] at h; cases h.1)]
    rw [hv]
    exact ⟨_, rfl, rfl, hF⟩
set_option maxRecDepth 100000 in
set_option maxHeartbeats 4000000 in
theorem victim_nil (number pick : Int) (w : World) : Calls Try.prog 15 #[.pointer none, .int .u32 number, .int .i64 pick] w (Ret fun v w' => v = .tuple #[.agg (lnE.arr ln0), .bool false] ∧ New w w') := by
  have hF := Only.refl (fun _ => False) w
  refine fx_enter Try.func15 rfl (N := (45, [])) (T := [(0, .pointer none), (1, .int .u32 number), (2, .int .i64 pick)]) rfl (show 3 ≤ 45 by decide) ⟨rfl, rfl, rfl, trivial⟩ fun a fr => ?_
  refine wp_seq ?_
  refine wp_region_lit ?_  -- region 0
  refine fx_new fr rfl rfl (by first | decide | simp) (x_alloc (z := .agg (#[.int .u32 0, .int .i64 0, .int .u8 0, .int .u8 0, .int .u8 0, .int .u8 0, .int .u8 0, .int .u8 0, .int .u8 0, .int .u8 0, .int .u8 0, .int .u8 0, .int .u8 0, .int .u8 0, .int .u8 0, .int .u8 0, .int .u8 0, .int .u8 0])) (cs := lnE.arr ln0) rfl (by kernel_rfl) rfl) ?_
  clear fr a
  intro b1 w2 hN3 B4 hb5 a fr
  have g_b1 := Nat.le_trans hF.size hb5
  replace hF := hF.trNew hN3
  refine fx_val (v := .bool false) fr rfl rfl (by first | decide | simp) (x_assign rfl rfl) ?_
  clear fr a; intro a fr
  refine wpList_nil ?_
  refine fx_next ?_
  refine wp_seq ?_
  refine wp_seq ?_
  refine wp_region_lit ?_  -- region 1
  refine fx_val (v := .pointer none) fr rfl rfl (by first | decide | simp) (x_move rfl (fr.ev rfl)) ?_
  clear fr a; intro a fr
  refine fx_call fr rfl rfl (by first | decide | simp) (x_call (vs := [.pointer none]) rfl rfl ⟨(fr.ev rfl), trivial⟩ Try.func31 nm31 rfl) (none_nil _) ?_
  clear fr a
  rintro v w9 ⟨rfl, hw9⟩ a fr
  obtain rfl := hw9.symm
  refine wpList_nil ?_
  refine fx_next ?_
  refine fx_cond_t fr rfl ?_
  refine wp_ret ?_
  refine fx_rt ?_
  refine fx_ret fr [.cell 6 39, .tmp 7] [.agg (lnE.arr ln0), .bool false] rfl ⟨⟨_, rfl, loadV_E (E := lnE) ag39 rfl (B4.rangeE lnE)⟩, rfl, trivial⟩ rfl ?_
  exact ⟨_, rfl, rfl, hF⟩
set_option maxRecDepth 100000 in
set_option maxHeartbeats 4000000 in
theorem new_no (sets ways : Int) (w : World) (h : rightB sets ways = false) : Calls Try.prog 18 #[.int .i64 sets, .int .i64 ways] w (Ret fun v w' => v = .tuple #[.pointer none, .int .i64 2] ∧ New w w') := by
  have hF := Only.refl (fun _ => False) w
  refine fx_enter Try.func18 rfl (N := (32, [])) (T := [(0, .int .i64 sets), (1, .int .i64 ways)]) rfl (show 2 ≤ 32 by decide) ⟨rfl, rfl, trivial⟩ fun a fr => ?_
  refine wp_seq ?_
  refine wp_region_lit ?_  -- region 0
  refine fx_val (v := .pointer none) fr rfl rfl (by first | decide | simp) (x_assign rfl rfl) ?_
  clear fr a; intro a fr
  refine fx_val (v := .int .i64 0) fr rfl rfl (by first | decide | simp) (x_assign rfl rfl) ?_
  clear fr a; intro a fr
  refine wpList_nil ?_
  refine fx_next ?_
  refine wp_seq ?_
  refine wp_seq ?_
  rcases Decidable.em (sets < 1) with hA | hA
  rotate_left
  rcases Decidable.em (64 < sets) with hB | hB
  rotate_left
  · skip
    refine wp_region_lit ?_  -- region 1
    refine fx_val (v := .int .i64 sets) fr rfl rfl (by first | decide | simp) (x_move rfl (fr.ev rfl)) ?_
    clear fr a; intro a fr
    refine fx_val (v := .bool false) fr rfl rfl (by first | decide | simp) (x_lss rfl (fr.ev rfl) rfl (decide_eq_false hA)) ?_
    clear fr a; intro a fr
    refine fx_val (v := .bool false) fr rfl rfl (by first | decide | simp) (x_move rfl (fr.ev rfl)) ?_
    clear fr a; intro a fr
    refine fx_val (v := .int .i64 sets) fr (fr.want rfl rfl rfl) rfl (by first | decide | simp) (x_move rfl (fr.ev rfl)) ?_
    clear fr a; intro a fr
    refine fx_val (v := .bool false) fr (fr.want rfl rfl rfl) rfl (by first | decide | simp) (x_gtr rfl (fr.ev rfl) rfl (decide_eq_false hB)) ?_
    clear fr a; intro a fr
    refine fx_val (v := .bool false) fr rfl rfl (by first | decide | simp) (x_pick_f rfl (fr.ev rfl) (fr.ev rfl)) ?_
    clear fr a; intro a fr
    refine fx_val (v := .bool false) fr rfl rfl (by first | decide | simp) (x_move rfl (fr.ev rfl)) ?_
    clear fr a; intro a fr
    refine fx_val (v := .int .i64 sets) fr (fr.want rfl rfl rfl) rfl (by first | decide | simp) (x_move rfl (fr.ev rfl)) ?_
    clear fr a; intro a fr
    refine fx_val (v := .int .i64 sets) fr (fr.want rfl rfl rfl) rfl (by first | decide | simp) (x_move rfl (fr.ev rfl)) ?_
    clear fr a; intro a fr
    refine fx_val (v := .int .i64 (sets - 1)) fr (fr.want rfl rfl rfl) rfl (by first | decide | simp) (x_sub rfl (fr.ev rfl) rfl (i64w (r := sets - 1) (by omega) (by omega))) ?_
    clear fr a; intro a fr
    refine fx_val (v := .int .i64 (andI sets)) fr (fr.want rfl rfl rfl) rfl (by first | decide | simp) (x_and rfl (fr.ev rfl) (fr.ev rfl) rfl) ?_
    clear fr a; intro a fr
    refine fx_val (v := .bool (decide (andI sets ≠ 0))) fr (fr.want rfl rfl rfl) rfl (by first | decide | simp) (x_neq rfl (fr.ev rfl) rfl rfl) ?_
    clear fr a; intro a fr
    refine fx_val (v := .bool (decide (andI sets ≠ 0))) fr rfl rfl (by first | decide | simp) (x_pick_f rfl (fr.ev rfl) (fr.ev rfl)) ?_
    clear fr a; intro a fr
    refine fx_val (v := .bool (decide (andI sets ≠ 0))) fr rfl rfl (by first | decide | simp) (x_move rfl (fr.ev rfl)) ?_
    clear fr a; intro a fr
    refine fx_may (g := !(decide (andI sets ≠ 0))) (v := .int .i64 ways) fr rfl rfl rfl (by simp) rfl (by first | decide | simp) (fun hg => x_move rfl (fr.ev rfl)) ?_
    clear fr a; intro a fr
    refine fx_may (g := !(decide (andI sets ≠ 0))) (v := .bool (decide (ways < 1))) fr rfl rfl rfl (by simp) rfl (by first | decide | simp) (fun hg => x_lss rfl ((fr.ev rfl).trans (onlyIf_t hg)) rfl rfl) ?_
    clear fr a; intro a fr
    refine fx_val (v := .bool ((decide (andI sets ≠ 0)) || (decide (ways < 1)))) fr rfl rfl (by first | decide | simp) (x_pick_or rfl (fr.ev rfl) (fun _ => rfl) (fun hb => ((fr.ev rfl)).trans (onlyIf_t (by simp_all))) rfl) ?_
    clear fr a; intro a fr
    refine fx_val (v := .bool ((decide (andI sets ≠ 0)) || (decide (ways < 1)))) fr rfl rfl (by first | decide | simp) (x_move rfl (fr.ev rfl)) ?_
    clear fr a; intro a fr
    refine fx_may (g := !((decide (andI sets ≠ 0)) || (decide (ways < 1)))) (v := .int .i64 ways) fr rfl rfl rfl (by simp) rfl (by first | decide | simp) (fun hg => x_move rfl (fr.ev rfl)) ?_
    clear fr a; intro a fr
    refine fx_may (g := !((decide (andI sets ≠ 0)) || (decide (ways < 1)))) (v := .bool (decide (8 < ways))) fr rfl rfl rfl (by simp) rfl (by first | decide | simp) (fun hg => x_gtr rfl ((fr.ev rfl).trans (onlyIf_t hg)) rfl rfl) ?_
    clear fr a; intro a fr
    refine fx_val (v := .bool (((decide (andI sets ≠ 0)) || (decide (ways < 1))) || (decide (8 < ways)))) fr rfl rfl (by first | decide | simp) (x_pick_or rfl (fr.ev rfl) (fun _ => rfl) (fun hb => ((fr.ev rfl)).trans (onlyIf_t (by simp_all))) rfl) ?_
    clear fr a; intro a fr
    refine wpList_nil ?_
    refine fx_next ?_
    refine fx_cond fr rfl (fun hc1 => ?_) (fun hc1 => ?_)
    · skip
      have hc1s := hc1
      try simp at hc1s
      refine wp_seq ?_
      refine wp_region_lit ?_  -- region 2
      refine fx_val (v := .pointer none) fr rfl rfl (by first | decide | simp) (x_assign rfl rfl) ?_
      clear fr a; intro a fr
      refine fx_val (v := .int .i64 2) fr rfl rfl (by first | decide | simp) (x_assign rfl rfl) ?_
      clear fr a; intro a fr
      refine wpList_nil ?_
      refine fx_next ?_
      refine wp_ret ?_
      refine fx_rt ?_
      refine fx_ret fr [.tmp 4, .tmp 5] [.pointer none, .int .i64 2] rfl ⟨rfl, rfl, trivial⟩ rfl ?_
      exact ⟨_, rfl, rfl, hF⟩
    · skip
      have hc1s := hc1
      try simp at hc1s
      refine wp_skip ?_
      refine fx_next ?_
      refine wp_seq ?_
      refine wp_region_lit ?_  -- region 3
      refine fx_val (v := .int .i64 sets) fr rfl rfl (by first | decide | simp) (x_move rfl (fr.ev rfl)) ?_
      clear fr a; intro a fr
      exfalso
      have hx := hc1
      simp only [Bool.or_eq_false_iff, decide_eq_false_iff_not] at hx
      exact right_no h hA hB hx.1.1 hx.1.2 hx.2
  · skip
    refine wp_region_lit ?_  -- region 1
    refine fx_val (v := .int .i64 sets) fr rfl rfl (by first | decide | simp) (x_move rfl (fr.ev rfl)) ?_
    clear fr a; intro a fr
    refine fx_val (v := .bool true) fr rfl rfl (by first | decide | simp) (x_lss rfl (fr.ev rfl) rfl (decide_eq_true hA)) ?_
    clear fr a; intro a fr
    refine fx_val (v := .bool true) fr rfl rfl (by first | decide | simp) (x_move rfl (fr.ev rfl)) ?_
    clear fr a; intro a fr
    refine fx_skip fr (fr.unwant rfl rfl rfl (by decide)) rfl (by first | decide | simp) ?_
    clear fr a; intro a fr
    refine fx_skip fr (fr.unwant rfl rfl rfl (by decide)) rfl (by first | decide | simp) ?_
    clear fr a; intro a fr
    refine fx_val (v := .bool true) fr rfl rfl (by first | decide | simp) (x_pick_t rfl (fr.ev rfl) rfl) ?_
    clear fr a; intro a fr
    refine fx_val (v := .bool true) fr rfl rfl (by first | decide | simp) (x_move rfl (fr.ev rfl)) ?_
    clear fr a; intro a fr
    refine fx_skip fr (fr.unwant rfl rfl rfl (by decide)) rfl (by first | decide | simp) ?_
    clear fr a; intro a fr
    refine fx_skip fr (fr.unwant rfl rfl rfl (by decide)) rfl (by first | decide | simp) ?_
    clear fr a; intro a fr
    refine fx_skip fr (fr.unwant rfl rfl rfl (by decide)) rfl (by first | decide | simp) ?_
    clear fr a; intro a fr
    refine fx_skip fr (fr.unwant rfl rfl rfl (by decide)) rfl (by first | decide | simp) ?_
    clear fr a; intro a fr
    refine fx_skip fr (fr.unwant rfl rfl rfl (by decide)) rfl (by first | decide | simp) ?_
    clear fr a; intro a fr
    refine fx_val (v := .bool true) fr rfl rfl (by first | decide | simp) (x_pick_t rfl (fr.ev rfl) rfl) ?_
    clear fr a; intro a fr
    refine fx_val (v := .bool true) fr rfl rfl (by first | decide | simp) (x_move rfl (fr.ev rfl)) ?_
    clear fr a; intro a fr
    refine fx_skip fr (fr.unwant rfl rfl rfl (by decide)) rfl (by first | decide | simp) ?_
    clear fr a; intro a fr
    refine fx_skip fr (fr.unwant rfl rfl rfl (by decide)) rfl (by first | decide | simp) ?_
    clear fr a; intro a fr
    refine fx_val (v := .bool true) fr rfl rfl (by first | decide | simp) (x_pick_t rfl (fr.ev rfl) rfl) ?_
    clear fr a; intro a fr
    refine fx_val (v := .bool true) fr rfl rfl (by first | decide | simp) (x_move rfl (fr.ev rfl)) ?_
    clear fr a; intro a fr
    refine fx_skip fr (fr.unwant rfl rfl rfl (by decide)) rfl (by first | decide | simp) ?_
    clear fr a; intro a fr
    refine fx_skip fr (fr.unwant rfl rfl rfl (by decide)) rfl (by first | decide | simp) ?_
    clear fr a; intro a fr
    refine fx_val (v := .bool true) fr rfl rfl (by first | decide | simp) (x_pick_t rfl (fr.ev rfl) rfl) ?_
    clear fr a; intro a fr
    refine wpList_nil ?_
    refine fx_next ?_
    refine fx_cond_t fr rfl ?_
    refine wp_seq ?_
    refine wp_region_lit ?_  -- region 2
    refine fx_val (v := .pointer none) fr rfl rfl (by first | decide | simp) (x_assign rfl rfl) ?_
    clear fr a; intro a fr
    refine fx_val (v := .int .i64 2) fr rfl rfl (by first | decide | simp) (x_assign rfl rfl) ?_
    clear fr a; intro a fr
    refine wpList_nil ?_
    refine fx_next ?_
    refine wp_ret ?_
    refine fx_rt ?_
    refine fx_ret fr [.tmp 4, .tmp 5] [.pointer none, .int .i64 2] rfl ⟨rfl, rfl, trivial⟩ rfl ?_
    exact ⟨_, rfl, rfl, hF⟩
  · skip
    refine wp_region_lit ?_  -- region 1
    refine fx_val (v := .int .i64 sets) fr rfl rfl (by first | decide | simp) (x_move rfl (fr.ev rfl)) ?_
    clear fr a; intro a fr
    refine fx_val (v := .bool false) fr rfl rfl (by first | decide | simp) (x_lss rfl (fr.ev rfl) rfl (decide_eq_false hA)) ?_
    clear fr a; intro a fr
    refine fx_val (v := .bool false) fr rfl rfl (by first | decide | simp) (x_move rfl (fr.ev rfl)) ?_
    clear fr a; intro a fr
    refine fx_val (v := .int .i64 sets) fr (fr.want rfl rfl rfl) rfl (by first | decide | simp) (x_move rfl (fr.ev rfl)) ?_
    clear fr a; intro a fr
    refine fx_val (v := .bool true) fr (fr.want rfl rfl rfl) rfl (by first | decide | simp) (x_gtr rfl (fr.ev rfl) rfl (decide_eq_true hB)) ?_
    clear fr a; intro a fr
    refine fx_val (v := .bool true) fr rfl rfl (by first | decide | simp) (x_pick_f rfl (fr.ev rfl) (fr.ev rfl)) ?_
    clear fr a; intro a fr
    refine fx_val (v := .bool true) fr rfl rfl (by first | decide | simp) (x_move rfl (fr.ev rfl)) ?_
    clear fr a; intro a fr
    refine fx_skip fr (fr.unwant rfl rfl rfl (by decide)) rfl (by first | decide | simp) ?_
    clear fr a; intro a fr
    refine fx_skip fr (fr.unwant rfl rfl rfl (by decide)) rfl (by first | decide | simp) ?_
    clear fr a; intro a fr
    refine fx_skip fr (fr.unwant rfl rfl rfl (by decide)) rfl (by first | decide | simp) ?_
    clear fr a; intro a fr
    refine fx_skip fr (fr.unwant rfl rfl rfl (by decide)) rfl (by first | decide | simp) ?_
    clear fr a; intro a fr
    refine fx_skip fr (fr.unwant rfl rfl rfl (by decide)) rfl (by first | decide | simp) ?_
    clear fr a; intro a fr
    refine fx_val (v := .bool true) fr rfl rfl (by first | decide | simp) (x_pick_t rfl (fr.ev rfl) rfl) ?_
    clear fr a; intro a fr
    refine fx_val (v := .bool true) fr rfl rfl (by first | decide | simp) (x_move rfl (fr.ev rfl)) ?_
    clear fr a; intro a fr
    refine fx_skip fr (fr.unwant rfl rfl rfl (by decide)) rfl (by first | decide | simp) ?_
    clear fr a; intro a fr
    refine fx_skip fr (fr.unwant rfl rfl rfl (by decide)) rfl (by first | decide | simp) ?_
    clear fr a; intro a fr
    refine fx_val (v := .bool true) fr rfl rfl (by first | decide | simp) (x_pick_t rfl (fr.ev rfl) rfl) ?_
    clear fr a; intro a fr
    refine fx_val (v := .bool true) fr rfl rfl (by first | decide | simp) (x_move rfl (fr.ev rfl)) ?_
    clear fr a; intro a fr
    refine fx_skip fr (fr.unwant rfl rfl rfl (by decide)) rfl (by first | decide | simp) ?_
    clear fr a; intro a fr
    refine fx_skip fr (fr.unwant rfl rfl rfl (by decide)) rfl (by first | decide | simp) ?_
    clear fr a; intro a fr
    refine fx_val (v := .bool true) fr rfl rfl (by first | decide | simp) (x_pick_t rfl (fr.ev rfl) rfl) ?_
    clear fr a; intro a fr
    refine wpList_nil ?_
    refine fx_next ?_
    refine fx_cond_t fr rfl ?_
    refine wp_seq ?_
    refine wp_region_lit ?_  -- region 2
    refine fx_val (v := .pointer none) fr rfl rfl (by first | decide | simp) (x_assign rfl rfl) ?_
    clear fr a; intro a fr
    refine fx_val (v := .int .i64 2) fr rfl rfl (by first | decide | simp) (x_assign rfl rfl) ?_
    clear fr a; intro a fr
    refine wpList_nil ?_
    refine fx_next ?_
    refine wp_ret ?_
    refine fx_rt ?_
    refine fx_ret fr [.tmp 4, .tmp 5] [.pointer none, .int .i64 2] rfl ⟨rfl, rfl, trivial⟩ rfl ?_
    exact ⟨_, rfl, rfl, hF⟩
set_option maxRecDepth 100000 in
set_option maxHeartbeats 4000000 in
theorem new_yes (n : Nat) (ways : Int) (w : World) (h : rightB ((n : Nat) : Int) ways = true) : Calls Try.prog 18 #[.int .i64 ((n : Nat) : Int), .int .i64 ways] w (Ret fun v w' => ∃ b Fp, v = .tuple #[.pointer (some ⟨b, 0, none⟩), .int .i64 0] ∧ LinesAt w' Fp b n ways [] ∧ (∀ g, Fp g → w.heap.size ≤ g) ∧ New w w') := by
  have hF := Only.refl (fun _ => False) w
  refine fx_enter Try.func18 rfl (N := (32, [])) (T := [(0, .int .i64 ((n : Nat) : Int)), (1, .int .i64 ways)]) rfl (show 2 ≤ 32 by decide) ⟨rfl, rfl, trivial⟩ fun a fr => ?_
  refine wp_seq ?_
  refine wp_region_lit ?_  -- region 0
  refine fx_val (v := .pointer none) fr rfl rfl (by first | decide | simp) (x_assign rfl rfl) ?_
  clear fr a; intro a fr
  refine fx_val (v := .int .i64 0) fr rfl rfl (by first | decide | simp) (x_assign rfl rfl) ?_
  clear fr a; intro a fr
  refine wpList_nil ?_
  refine fx_next ?_
  refine wp_seq ?_
  refine wp_seq ?_
  obtain ⟨h1, h2, h3, h4, h5⟩ := right_yes h
  refine wp_region_lit ?_  -- region 1
  refine fx_val (v := .int .i64 ((n : Nat) : Int)) fr rfl rfl (by first | decide | simp) (x_move rfl (fr.ev rfl)) ?_
  clear fr a; intro a fr
  refine fx_val (v := .bool false) fr rfl rfl (by first | decide | simp) (x_lss rfl (fr.ev rfl) rfl (decide_eq_false h1)) ?_
  clear fr a; intro a fr
  refine fx_val (v := .bool false) fr rfl rfl (by first | decide | simp) (x_move rfl (fr.ev rfl)) ?_
  clear fr a; intro a fr
  refine fx_val (v := .int .i64 ((n : Nat) : Int)) fr (fr.want rfl rfl rfl) rfl (by first | decide | simp) (x_move rfl (fr.ev rfl)) ?_
  clear fr a; intro a fr
  refine fx_val (v := .bool false) fr (fr.want rfl rfl rfl) rfl (by first | decide | simp) (x_gtr rfl (fr.ev rfl) rfl (decide_eq_false h2)) ?_
  clear fr a; intro a fr
  refine fx_val (v := .bool false) fr rfl rfl (by first | decide | simp) (x_pick_f rfl (fr.ev rfl) (fr.ev rfl)) ?_
  clear fr a; intro a fr
  refine fx_val (v := .bool false) fr rfl rfl (by first | decide | simp) (x_move rfl (fr.ev rfl)) ?_
  clear fr a; intro a fr
  refine fx_val (v := .int .i64 ((n : Nat) : Int)) fr (fr.want rfl rfl rfl) rfl (by first | decide | simp) (x_move rfl (fr.ev rfl)) ?_
  clear fr a; intro a fr
  refine fx_val (v := .int .i64 ((n : Nat) : Int)) fr (fr.want rfl rfl rfl) rfl (by first | decide | simp) (x_move rfl (fr.ev rfl)) ?_
  clear fr a; intro a fr
  refine fx_val (v := .int .i64 (((n : Nat) : Int) - 1)) fr (fr.want rfl rfl rfl) rfl (by first | decide | simp) (x_sub rfl (fr.ev rfl) rfl (i64w (r := ((n : Nat) : Int) - 1) (by omega) (by omega))) ?_
  clear fr a; intro a fr
  refine fx_val (v := .int .i64 (andI ((n : Nat) : Int))) fr (fr.want rfl rfl rfl) rfl (by first | decide | simp) (x_and rfl (fr.ev rfl) (fr.ev rfl) rfl) ?_
  clear fr a; intro a fr
  refine fx_val (v := .bool false) fr (fr.want rfl rfl rfl) rfl (by first | decide | simp) (x_neq rfl (fr.ev rfl) rfl (decide_eq_false h3)) ?_
  clear fr a; intro a fr
  refine fx_val (v := .bool false) fr rfl rfl (by first | decide | simp) (x_pick_f rfl (fr.ev rfl) (fr.ev rfl)) ?_
  clear fr a; intro a fr
  refine fx_val (v := .bool false) fr rfl rfl (by first | decide | simp) (x_move rfl (fr.ev rfl)) ?_
  clear fr a; intro a fr
  refine fx_val (v := .int .i64 ways) fr (fr.want rfl rfl rfl) rfl (by first | decide | simp) (x_move rfl (fr.ev rfl)) ?_
  clear fr a; intro a fr
  refine fx_val (v := .bool false) fr (fr.want rfl rfl rfl) rfl (by first | decide | simp) (x_lss rfl (fr.ev rfl) rfl (decide_eq_false h4)) ?_
  clear fr a; intro a fr
  refine fx_val (v := .bool false) fr rfl rfl (by first | decide | simp) (x_pick_f rfl (fr.ev rfl) (fr.ev rfl)) ?_
  clear fr a; intro a fr
  refine fx_val (v := .bool false) fr rfl rfl (by first | decide | simp) (x_move rfl (fr.ev rfl)) ?_
  clear fr a; intro a fr
  refine fx_val (v := .int .i64 ways) fr (fr.want rfl rfl rfl) rfl (by first | decide | simp) (x_move rfl (fr.ev rfl)) ?_
  clear fr a; intro a fr
  refine fx_val (v := .bool false) fr (fr.want rfl rfl rfl) rfl (by first | decide | simp) (x_gtr rfl (fr.ev rfl) rfl (decide_eq_false h5)) ?_
  clear fr a; intro a fr
  refine fx_val (v := .bool false) fr rfl rfl (by first | decide | simp) (x_pick_f rfl (fr.ev rfl) (fr.ev rfl)) ?_
  clear fr a; intro a fr
  refine wpList_nil ?_
  refine fx_next ?_
  refine fx_cond_f fr rfl ?_
  refine wp_skip ?_
  refine fx_next ?_
  refine wp_seq ?_
  refine wp_region_lit ?_  -- region 3
  refine fx_val (v := .int .i64 ((n : Nat) : Int)) fr rfl rfl (by first | decide | simp) (x_move rfl (fr.ev rfl)) ?_
  clear fr a; intro a fr
  refine fx_makeRows fr rfl rfl (by first | decide | simp) rfl (fr.ev rfl) (fr.ev rfl) (by omega) ?_
  clear fr a
  intro S1 w2 hN3 hS4 hb5 a fr
  have g_S1 := Nat.le_trans hF.size hb5
  replace hF := hF.trNew hN3
  refine fx_val (v := .int .i64 ways) fr rfl rfl (by first | decide | simp) (x_move rfl (fr.ev rfl)) ?_
  clear fr a; intro a fr
  refine fx_val (v := .agg (#[.slice (some ⟨S1, 0, none⟩) n n, .int .i64 ways])) fr rfl rfl (by first | decide | simp) (x_build (cells := #[.slice (some ⟨S1, 0, none⟩) n n, .int .i64 ways]) rfl (by simp only [List.map_toArray, List.map_cons, List.map_nil, show a.eval (.tmp 28) = .slice (some ⟨S1, 0, none⟩) n n from fr.ev rfl, show a.eval (.tmp 29) = .int .i64 ways from fr.ev rfl]; kernel_rfl)) ?_
  clear fr a; intro a fr
  refine fx_new fr rfl rfl (by first | decide | simp) (x_box (cs := #[.slice (some ⟨S1, 0, none⟩) n n, .int .i64 ways]) rfl (fr.ev rfl) rfl) ?_
  clear fr a
  intro b6 w7 hN8 B9 hb10 a fr
  have ne_S1_b6 : NE S1 b6 := NE.mk (Nat.lt_of_lt_of_le hS4.lt hb10)
  have g_b6 := Nat.le_trans hF.size hb10
  replace hS4 := hS4.new hN8
  replace hF := hF.trNew hN8
  refine fx_val (v := .pointer (some ⟨b6, 0, none⟩)) fr rfl rfl (by first | decide | simp) (x_assign rfl (fr.ev rfl)) ?_
  clear fr a; intro a fr
  refine fx_val (v := .int .i64 0) fr rfl rfl (by first | decide | simp) (x_assign rfl rfl) ?_
  clear fr a; intro a fr
  refine wpList_nil ?_
  refine fx_next ?_
  refine wp_ret ?_
  refine fx_ret fr [.tmp 4, .tmp 5] [.pointer (some ⟨b6, 0, none⟩), .int .i64 0] rfl ⟨rfl, rfl, trivial⟩ rfl ?_
  have he : ∀ i, (List.replicate n r0).getD i r0 = r0 := fun i => by simp only [List.getD, List.getElem?_replicate]; split <;> rfl
  exact ⟨_, rfl, b6, fun k => k = b6 ∨ k = S1 ∨ False, rfl, ⟨S1, fun _ => False, List.replicate n r0, B9, hS4, RowsAt.nil _ n, ne_S1_b6.symm, id, id, fun k => Iff.rfl, List.length_replicate, fun i _ => by rw [he]; rfl, by omega, List.Pairwise.nil, Fits.nil (by omega)⟩, (fun g hg => by rcases hg with rfl | rfl | hg; exact g_b6; exact g_S1; exact hg.elim), hF⟩
set_option maxRecDepth 100000 in
set_option maxHeartbeats 4000000 in
theorem copy_nil (w : World) : Calls Try.prog 26 #[.pointer none] w (Ret fun v w' => v = .pointer none ∧ w' = w) := by
  refine fx_enter Try.func26 rfl (N := (40, [])) (T := [(0, .pointer none)]) rfl (show 1 ≤ 40 by decide) ⟨rfl, trivial⟩ fun a fr => ?_
  refine wp_seq ?_
  refine wp_region_lit ?_  -- region 0
  refine fx_val (v := .pointer none) fr rfl rfl (by first | decide | simp) (x_assign rfl rfl) ?_
  clear fr a; intro a fr
  refine wpList_nil ?_
  refine fx_next ?_
  refine wp_seq ?_
  refine wp_seq ?_
  refine wp_region_lit ?_  -- region 1
  refine fx_val (v := .pointer none) fr rfl rfl (by first | decide | simp) (x_move rfl (fr.ev rfl)) ?_
  clear fr a; intro a fr
  refine fx_call fr rfl rfl (by first | decide | simp) (x_call (vs := [.pointer none]) rfl rfl ⟨(fr.ev rfl), trivial⟩ Try.func31 nm31 rfl) (none_nil _) ?_
  clear fr a
  rintro v w9 ⟨rfl, hw9⟩ a fr
  obtain rfl := hw9.symm
  refine wpList_nil ?_
  refine fx_next ?_
  refine fx_cond_t fr rfl ?_
  refine wp_seq ?_
  refine wp_region_lit ?_  -- region 2
  refine fx_val (v := .pointer none) fr rfl rfl (by first | decide | simp) (x_assign rfl rfl) ?_
  clear fr a; intro a fr
  refine wpList_nil ?_
  refine fx_next ?_
  refine wp_ret ?_
  refine fx_rt ?_
  refine fx_ret fr [.tmp 2] [.pointer none] rfl ⟨rfl, trivial⟩ rfl ?_
  exact ⟨_, rfl, rfl, rfl⟩
set_option maxRecDepth 100000 in
set_option maxHeartbeats 4000000 in
theorem copy_c {w : World} {Fp : Nat → Prop} {b n : Nat} {ways : Int} {L : List Ln} (H : LinesAt w Fp b n ways L) : Calls Try.prog 26 #[.pointer (some ⟨b, 0, none⟩)] w (Ret fun v w' => ∃ b' Fp', v = .pointer (some ⟨b', 0, none⟩) ∧ LinesAt w' Fp' b' n ways L ∧ (∀ g, Fp' g → w.heap.size ≤ g) ∧ New w w') := by
  obtain ⟨S, FpR, rs, hB, hS, hR, hP⟩ := H
  have ne_b_S := hP.ne
  have ap_FpR_b := hP.apb
  have ap_FpR_S := hP.apS
  have hlen := hP.len
  obtain ⟨hn1, hn2, hw1, hw2⟩ := hP.bd
  have hF := Only.refl (fun _ => False) w
  refine fx_enter Try.func26 rfl (N := (40, [])) (T := [(0, .pointer (some ⟨b, 0, none⟩))]) rfl (show 1 ≤ 40 by decide) ⟨rfl, trivial⟩ fun a fr => ?_
  refine wp_seq ?_
  refine wp_region_lit ?_  -- region 0
  refine fx_val (v := .pointer none) fr rfl rfl (by first | decide | simp) (x_assign rfl rfl) ?_
  clear fr a; intro a fr
  refine wpList_nil ?_
  refine fx_next ?_
  refine wp_seq ?_
  refine wp_seq ?_
  refine wp_region_lit ?_  -- region 1
  refine fx_val (v := .pointer (some ⟨b, 0, none⟩)) fr rfl rfl (by first | decide | simp) (x_move rfl (fr.ev rfl)) ?_
  clear fr a; intro a fr
  refine fx_call fr rfl rfl (by first | decide | simp) (x_call (vs := [.pointer (some ⟨b, 0, none⟩)]) rfl rfl ⟨(fr.ev rfl), trivial⟩ Try.func31 nm31 rfl) (none_some hB (by omega)) ?_
  clear fr a
  rintro v w9 ⟨rfl, hw9⟩ a fr
  obtain rfl := hw9.symm
  refine wpList_nil ?_
  refine fx_next ?_
  refine fx_cond_f fr rfl ?_
  refine wp_skip ?_
  refine fx_next ?_
  refine wp_seq ?_
  refine fx_heldT (n := 12) (k := 12) (fun w => Blk w b 74 #[.slice (some ⟨S, 0, none⟩) n n, .int .i64 ways] ∧ Blk w S 26 (rowsArr rs) ∧ RowsAt w FpR rs ∧ True) (by kernel_rfl) (by kernel_rfl) rfl ?_  -- region 3
  intro w3 hN4
  replace hB := hB.new hN4
  replace hS := hS.new hN4
  replace hR := hR.new hN4
  replace hF := hF.trNew hN4
  refine fx_take (i := 0) (v := .pointer (some ⟨b, 0, none⟩)) fr rfl (by kernel_rfl) rfl rfl (by first | decide | simp) (fun _ _ _ h => h) (fun _ ⟨hB, hS, hR, _⟩ => x_move rfl (fr.ev rfl)) ⟨hB, hS, hR, trivial⟩ ?_
  clear fr a; intro a fr
  refine fx_take (i := 1) (v := .pointer (some ⟨b, 0, none⟩)) fr rfl (by kernel_rfl) rfl rfl (by first | decide | simp) (fun _ _ _ h => h) (fun _ ⟨hB, hS, hR, _⟩ => x_nilCheck rfl (fr.ev rfl)) ⟨hB, hS, hR, trivial⟩ ?_
  clear fr a; intro a fr
  refine fx_take (i := 2) (v := .pointer (some ⟨b, 0, none⟩)) fr rfl (by kernel_rfl) rfl rfl (by first | decide | simp) (fun _ _ _ h => h) (fun _ ⟨hB, hS, hR, _⟩ => x_fieldAddr fo74_0 rfl (fr.ev rfl) rfl) ⟨hB, hS, hR, trivial⟩ ?_
  clear fr a; intro a fr
  refine fx_take (i := 3) (v := .slice (some ⟨S, 0, none⟩) n n) fr rfl (by kernel_rfl) rfl rfl (by first | decide | simp) (fun _ _ _ h => h) (fun _ ⟨hB, hS, hR, _⟩ => x_load1 pl72 rfl (fr.ev rfl) (hB.cell 0 rfl)) ⟨hB, hS, hR, trivial⟩ ?_
  clear fr a; intro a fr
  refine fx_take (i := 4) (v := .int .i64 ((n : Nat) : Int)) fr rfl (by kernel_rfl) rfl rfl (by first | decide | simp) (fun _ _ _ h => h) (fun _ ⟨hB, hS, hR, _⟩ => x_len Try.underlying72 rfl (fr.ev rfl)) ⟨hB, hS, hR, trivial⟩ ?_
  clear fr a; intro a fr
  refine fx_take (i := 6) (v := .pointer (some ⟨b, 0, none⟩)) fr rfl (by kernel_rfl) rfl rfl (by first | decide | simp) (fun _ _ _ h => h) (fun _ ⟨hB, hS, hR, _⟩ => x_move rfl (fr.ev rfl)) ⟨hB, hS, hR, trivial⟩ ?_
  clear fr a; intro a fr
  refine fx_take (i := 7) (v := .pointer (some ⟨b, 0, none⟩)) fr rfl (by kernel_rfl) rfl rfl (by first | decide | simp) (fun _ _ _ h => h) (fun _ ⟨hB, hS, hR, _⟩ => x_nilCheck rfl (fr.ev rfl)) ⟨hB, hS, hR, trivial⟩ ?_
  clear fr a; intro a fr
  refine fx_take (i := 8) (v := .pointer (some ⟨b, 1, none⟩)) fr rfl (by kernel_rfl) rfl rfl (by first | decide | simp) (fun _ _ _ h => h) (fun _ ⟨hB, hS, hR, _⟩ => x_fieldAddr fo74_1 rfl (fr.ev rfl) rfl) ⟨hB, hS, hR, trivial⟩ ?_
  clear fr a; intro a fr
  refine fx_take (i := 9) (v := .int .i64 ways) fr rfl (by kernel_rfl) rfl rfl (by first | decide | simp) (fun _ _ _ h => h) (fun _ ⟨hB, hS, hR, _⟩ => x_load1 pl3 rfl (fr.ev rfl) (hB.cell 1 rfl)) ⟨hB, hS, hR, trivial⟩ ?_
  clear fr a; intro a fr
  refine fx_one (i := 5) (by kernel_rfl) (fx_op rfl ?_)
  refine fx_makeRows fr rfl rfl (by first | decide | simp) rfl (fr.ev rfl) (fr.ev rfl) (by omega) ?_
  clear fr a
  intro S5 w6 hN7 hS8 hb9 a fr
  have ne_b_S5 : NE b S5 := NE.mk (Nat.lt_of_lt_of_le hB.lt hb9)
  have ne_S_S5 : NE S S5 := NE.mk (Nat.lt_of_lt_of_le hS.lt hb9)
  have ap_FpR_S5 : ¬ FpR S5 := hR.apart hb9
  have g_S5 := Nat.le_trans hF.size hb9
  replace hB := hB.new hN7
  replace hS := hS.new hN7
  replace hR := hR.new hN7
  replace hF := hF.trNew hN7
  refine wpList_nil ?_
  refine ⟨⟨hB, hS, hR, trivial⟩, ?_⟩
  refine fx_take (i := 10) (v := .agg (#[.slice (some ⟨S5, 0, none⟩) n n, .int .i64 ways])) fr rfl (by kernel_rfl) rfl rfl (by first | decide | simp) (fun _ _ _ h => h) (fun _ ⟨hB, hS, hR, _⟩ => x_build (cells := #[.slice (some ⟨S5, 0, none⟩) n n, .int .i64 ways]) rfl (by simp only [List.map_toArray, List.map_cons, List.map_nil, show a.eval (.tmp 13) = .slice (some ⟨S5, 0, none⟩) n n from fr.ev rfl, show a.eval (.tmp 17) = .int .i64 ways from fr.ev rfl]; kernel_rfl)) ⟨hB, hS, hR, trivial⟩ ?_
  clear fr a; intro a fr
  refine fx_one (i := 11) (by kernel_rfl) (fx_op rfl ?_)
  refine fx_new fr rfl rfl (by first | decide | simp) (x_box (cs := #[.slice (some ⟨S5, 0, none⟩) n n, .int .i64 ways]) rfl (fr.ev rfl) rfl) ?_
  clear fr a
  intro b10 w11 hN12 B13 hb14 a fr
  have ne_b_b10 : NE b b10 := NE.mk (Nat.lt_of_lt_of_le hB.lt hb14)
  have ne_S_b10 : NE S b10 := NE.mk (Nat.lt_of_lt_of_le hS.lt hb14)
  have ap_FpR_b10 : ¬ FpR b10 := hR.apart hb14
  have ne_S5_b10 : NE S5 b10 := NE.mk (Nat.lt_of_lt_of_le hS8.lt hb14)
  have g_b10 := Nat.le_trans hF.size hb14
  replace hB := hB.new hN12
  replace hS := hS.new hN12
  replace hR := hR.new hN12
  replace hS8 := hS8.new hN12
  replace hF := hF.trNew hN12
  refine wpList_nil ?_
  refine ⟨⟨hB, hS, hR, trivial⟩, ?_⟩
  refine fx_hdone (by kernel_rfl) ?_
  refine fx_tail ?_
  refine fx_val (v := .pointer (some ⟨b10, 0, none⟩)) fr rfl rfl (by first | decide | simp) (x_assign rfl (fr.ev rfl)) ?_
  clear fr a; intro a fr
  refine wpList_nil ?_
  refine fx_next ?_
  refine wp_seq ?_
  refine wp_seq ?_
  refine wp_region_lit ?_  -- region 4
  refine fx_val (v := .pointer (some ⟨b, 0, none⟩)) fr rfl rfl (by first | decide | simp) (x_move rfl (fr.ev rfl)) ?_
  clear fr a; intro a fr
  refine fx_val (v := .pointer (some ⟨b, 0, none⟩)) fr rfl rfl (by first | decide | simp) (x_nilCheck rfl (fr.ev rfl)) ?_
  clear fr a; intro a fr
  refine fx_val (v := .pointer (some ⟨b, 0, none⟩)) fr rfl rfl (by first | decide | simp) (x_fieldAddr fo74_0 rfl (fr.ev rfl) rfl) ?_
  clear fr a; intro a fr
  refine fx_val (v := .slice (some ⟨S, 0, none⟩) n n) fr rfl rfl (by first | decide | simp) (x_load1 pl72 rfl (fr.ev rfl) (hB.cell 0 rfl)) ?_
  clear fr a; intro a fr
  refine fx_val (v := .int .i64 ((n : Nat) : Int)) fr rfl rfl (by first | decide | simp) (x_len Try.underlying72 rfl (fr.ev rfl)) ?_
  clear fr a; intro a fr
  refine fx_val (v := .int .i64 0) fr rfl rfl (by first | decide | simp) (x_move rfl rfl) ?_
  clear fr a; intro a fr
  refine wpList_nil ?_
  refine fx_next ?_
  refine wp_block ?_
  refine fx_loop (fun nM a wL => ∃ i : Nat, ∃ r2 : List Row, ∃ FpQ : Nat → Prop, nM = n - i ∧ Fr (40, []) [(0, .pointer (some ⟨b, 0, none⟩)), (2, .pointer none), (23, .slice (some ⟨S, 0, none⟩) n n), (24, .int .i64 ((n : Nat) : Int)), (3, .pointer (some ⟨b10, 0, none⟩)), (25, .int .i64 ((i : Nat) : Int))] a ∧ Only (fun _ => False) w wL ∧ Blk wL b 74 #[.slice (some ⟨S, 0, none⟩) n n, .int .i64 ways] ∧ Blk wL S 26 (rowsArr rs) ∧ RowsAt wL FpR rs ∧ Blk wL b10 74 #[.slice (some ⟨S5, 0, none⟩) n n, .int .i64 ways] ∧ Blk wL S5 26 (rowsArr r2) ∧ RowsAt wL FpQ r2 ∧ i ≤ n ∧ r2.length = n ∧ (∀ j, j < i → (r2.getD j r0).l = (rs.getD j r0).l) ∧ (∀ j, i ≤ j → j < n → r2.getD j r0 = r0) ∧ (¬ FpQ b) ∧ (¬ FpQ S) ∧ (∀ k, FpR k → FpQ k → False) ∧ (¬ FpQ b10) ∧ (¬ FpQ S5) ∧ (∀ g, FpQ g → (fun _ => False) g ∨ w.heap.size ≤ g)) (n0 := _) ⟨0, (List.replicate n r0), (fun _ => False), rfl, fr.sub ⟨rfl, rfl, rfl, rfl, rfl, rfl, trivial⟩, hF, hB, hS, hR, B13, hS8, (RowsAt.nil _ n), by omega, List.length_replicate, fun j hj => absurd hj (by omega), fun j _ _ => by simp only [List.getD, List.getElem?_replicate]; split <;> rfl, (fun h => h.elim), (fun h => h.elim), (fun k h1 hk => (fun h => h.elim) hk), (fun h => h.elim), (fun h => h.elim), (fun g hg => (fun h => h.elim) hg)⟩ ?_
  rintro n16 a w15 ⟨i, r2, FpQ, rfl, fr, hF, hB, hS, hR, B13, hS2, hR2, hi, hl2, hy, hz, ap_FpQ_b, ap_FpQ_S, ap2_FpR_FpQ, ap_FpQ_b10, ap_FpQ_S5, gA_FpQ⟩
  refine wp_seq ?_
  refine wp_region_lit ?_  -- region 5
  refine fx_val (v := .bool (decide (((i : Nat) : Int) < ((n : Nat) : Int)))) fr rfl rfl (by first | decide | simp) (x_lss rfl (fr.ev rfl) (fr.ev rfl) rfl) ?_
  clear fr a; intro a fr
  refine wpList_nil ?_
  refine fx_next ?_
  refine wp_seq ?_
  refine fx_cond fr rfl (fun hc17 => ?_) (fun hc17 => ?_)
  · skip
    have hc17 := of_decide_eq_true hc17
    refine wp_skip ?_
    refine fx_next ?_
    refine wp_seq ?_
    refine wp_block ?_
    refine wp_seq ?_
    obtain ⟨rA, rc, rl, hr⟩ : ∃ A9 c9 l9, rs.getD i r0 = ⟨A9, c9, l9⟩ := ⟨_, _, _, rfl⟩
    have hrl : ((rl.length : Nat) : Int) ≤ ways := by have h1 := hP.row i (by omega); have h2 := hP.fits i (by omega); rw [hr] at h1; rw [← h1] at h2; exact h2
    refine wp_region_lit ?_  -- region 6
    refine fx_val (v := .int .i64 ((i : Nat) : Int)) fr rfl rfl (by first | decide | simp) (x_move rfl (fr.ev rfl)) ?_
    clear fr a; intro a fr
    refine fx_val (v := .pointer (some ⟨S, i, none⟩)) fr rfl rfl (by first | decide | simp) (x_indexV Try.underlying72 sz26 rfl (fr.ev rfl) (show (some ⟨S, 0, none⟩ : Option Addr) = some ⟨S, 0, none⟩ from rfl) (fr.ev rfl) (by omega) (show 0 + i * 1 = i by omega)) ?_
    clear fr a; intro a fr
    refine fx_val (v := .slice rA rl.length rc) fr rfl rfl (by first | decide | simp) (x_load1 pl26 rfl (fr.ev rfl) (hS.cell i (rows_cellAt (by omega) hr))) ?_
    clear fr a; intro a fr
    refine fx_val (v := .int .i64 ((i : Nat) : Int)) fr rfl rfl (by first | decide | simp) (x_assign rfl (fr.ev rfl)) ?_
    clear fr a; intro a fr
    refine fx_val (v := .slice rA rl.length rc) fr rfl rfl (by first | decide | simp) (x_assign rfl (fr.ev rfl)) ?_
    clear fr a; intro a fr
    refine wpList_nil ?_
    refine fx_next ?_
    refine fx_heldT (n := 7) (k := 7) (fun w => Blk w b 74 #[.slice (some ⟨S, 0, none⟩) n n, .int .i64 ways] ∧ Blk w S 26 (rowsArr rs) ∧ RowsAt w FpR rs ∧ Blk w b10 74 #[.slice (some ⟨S5, 0, none⟩) n n, .int .i64 ways] ∧ Blk w S5 26 (rowsArr r2) ∧ RowsAt w FpQ r2 ∧ True) (by kernel_rfl) (by kernel_rfl) rfl ?_  -- region 7
    intro w18 hN19
    replace hB := hB.new hN19
    replace hS := hS.new hN19
    replace hR := hR.new hN19
    replace B13 := B13.new hN19
    replace hS2 := hS2.new hN19
    replace hR2 := hR2.new hN19
    replace hF := hF.trNew hN19
    refine fx_take (i := 0) (v := .pointer (some ⟨b10, 0, none⟩)) fr rfl (by kernel_rfl) rfl rfl (by first | decide | simp) (fun _ _ _ h => h) (fun _ ⟨hB, hS, hR, B13, hS2, hR2, _⟩ => x_move rfl (fr.ev rfl)) ⟨hB, hS, hR, B13, hS2, hR2, trivial⟩ ?_
    clear fr a; intro a fr
    refine fx_take (i := 1) (v := .pointer (some ⟨b10, 0, none⟩)) fr rfl (by kernel_rfl) rfl rfl (by first | decide | simp) (fun _ _ _ h => h) (fun _ ⟨hB, hS, hR, B13, hS2, hR2, _⟩ => x_nilCheck rfl (fr.ev rfl)) ⟨hB, hS, hR, B13, hS2, hR2, trivial⟩ ?_
    clear fr a; intro a fr
    refine fx_take (i := 2) (v := .pointer (some ⟨b10, 0, none⟩)) fr rfl (by kernel_rfl) rfl rfl (by first | decide | simp) (fun _ _ _ h => h) (fun _ ⟨hB, hS, hR, B13, hS2, hR2, _⟩ => x_fieldAddr fo74_0 rfl (fr.ev rfl) rfl) ⟨hB, hS, hR, B13, hS2, hR2, trivial⟩ ?_
    clear fr a; intro a fr
    refine fx_take (i := 3) (v := .slice (some ⟨S5, 0, none⟩) n n) fr rfl (by kernel_rfl) rfl rfl (by first | decide | simp) (fun _ _ _ h => h) (fun _ ⟨hB, hS, hR, B13, hS2, hR2, _⟩ => x_load1 pl72 rfl (fr.ev rfl) (B13.cell 0 rfl)) ⟨hB, hS, hR, B13, hS2, hR2, trivial⟩ ?_
    clear fr a; intro a fr
    refine fx_take (i := 4) (v := .int .i64 ((i : Nat) : Int)) fr rfl (by kernel_rfl) rfl rfl (by first | decide | simp) (fun _ _ _ h => h) (fun _ ⟨hB, hS, hR, B13, hS2, hR2, _⟩ => x_move rfl (fr.ev rfl)) ⟨hB, hS, hR, B13, hS2, hR2, trivial⟩ ?_
    clear fr a; intro a fr
    refine fx_take (i := 5) (v := .slice rA rl.length rc) fr rfl (by kernel_rfl) rfl rfl (by first | decide | simp) (fun _ _ _ h => h) (fun _ ⟨hB, hS, hR, B13, hS2, hR2, _⟩ => x_move rfl (fr.ev rfl)) ⟨hB, hS, hR, B13, hS2, hR2, trivial⟩ ?_
    clear fr a; intro a fr
    refine fx_one (i := 6) (by kernel_rfl) (fx_op rfl ?_)
    refine fx_call fr rfl rfl (by first | decide | simp) (x_call (vs := [.slice rA rl.length rc]) rfl rfl ⟨(fr.ev rfl), trivial⟩ Try.func37 nm37 rfl) (clone_c ((hR.at_ (by omega) hr).view) (by omega)) ?_
    clear fr a
    rintro v w24 ⟨A20, cap21, rfl, O22, hA23, hN25⟩ a fr
    have ap_A20_b : Apart A20 b := new_apart hA23 hB.lt
    have ap_A20_S : Apart A20 S := new_apart hA23 hS.lt
    have ap2_FpR_A20 : ∀ k, FpR k → inA A20 k → False := symP (new_apart2P hA23 fun _ hg => hR.lt hg)
    have ap_A20_b10 : Apart A20 b10 := new_apart hA23 B13.lt
    have ap_A20_S5 : Apart A20 S5 := new_apart hA23 hS2.lt
    have ap2_FpQ_A20 : ∀ k, FpQ k → inA A20 k → False := symP (new_apart2P hA23 fun _ hg => hR2.lt hg)
    have gA_A20 := gA_new hF hA23
    replace hB := hB.new hN25
    replace hS := hS.new hN25
    replace hR := hR.new hN25
    replace B13 := B13.new hN25
    replace hS2 := hS2.new hN25
    replace hR2 := hR2.new hN25
    replace hF := hF.trNew hN25
    refine wpList_nil ?_
    refine ⟨⟨hB, hS, hR, B13, hS2, hR2, trivial⟩, ?_⟩
    refine fx_hdone (by kernel_rfl) ?_
    refine fx_tail ?_
    refine fx_val (v := .pointer (some ⟨S5, i, none⟩)) fr rfl rfl (by first | decide | simp) (x_indexV Try.underlying72 sz26 rfl (fr.ev rfl) (show (some ⟨S5, 0, none⟩ : Option Addr) = some ⟨S5, 0, none⟩ from rfl) (fr.ev rfl) (by omega) (show 0 + i * 1 = i by omega)) ?_
    clear fr a; intro a fr
    refine fx_store1 sz26 rfl rfl rfl (fr.ev rfl) (fr.ev rfl) rfl hS2 (by rw [rows_size]; omega) (cs' := rowsArr (r2.set i ⟨A20, cap21, rl⟩)) (rows_set r2 (r := ⟨A20, cap21, rl⟩)) fun w26 hO27 hBq => ?_
    replace hB := hB.only hO27 (by first | exact ne_b_S5 | exact ne_S5_b.symm | (show ¬ b = S5; omega))
    replace hS := hS.only hO27 (by first | exact ne_S_S5 | exact ne_S5_S.symm | (show ¬ S = S5; omega))
    replace hR := hR.only hO27 (ne1P ap_FpR_S5)
    replace B13 := B13.only hO27 (by first | exact ne_b10_S5 | exact ne_S5_b10.symm | (show ¬ b10 = S5; omega))
    replace hR2 := hR2.only hO27 (ne1P ap_FpQ_S5)
    replace O22 := O22.only hO27 (Apart.ne1 ap_A20_S5)
    replace hF := hF.loc hO27 (.inr g_S5)
    replace hS2 := hBq
    clear hBq
    refine wpList_nil ?_
    refine fx_blk ?_
    refine fx_next ?_
    refine wp_region_lit ?_  -- region 8
    refine fx_val (v := .int .i64 ((i + 1 : Nat) : Int)) fr rfl rfl (by first | decide | simp) (x_add rfl (fr.ev rfl) rfl (i64w (r := ((i + 1 : Nat) : Int)) (by omega) (by omega))) ?_
    clear fr a; intro a fr
    refine fx_val (v := .int .i64 ((i + 1 : Nat) : Int)) fr rfl rfl (by first | decide | simp) (x_move rfl (fr.ev rfl)) ?_
    clear fr a; intro a fr
    refine wpList_nil ?_
    refine fx_next ?_
    exact ⟨_, by omega, (i + 1), (r2.set i ⟨A20, cap21, rl⟩), (fun k => FpQ k ∨ inA A20 k), rfl, fr.sub ⟨rfl, rfl, rfl, rfl, rfl, rfl, trivial⟩, hF, hB, hS, hR, B13, hS2, (hR2.put (by omega) (hz i (Nat.le_refl _) (by omega)) O22 (symP ap2_FpQ_A20)), by omega, by rw [List.length_set]; exact hl2, fun j hj => by rw [getD_setR (by omega)]; by_cases e : i = j; (subst e; rw [if_pos rfl]; show rl = _; rw [hr]); (rw [if_neg e]; exact hy j (by omega)), fun j hj hj2 => by rw [getD_setR (by omega), if_neg (by omega)]; exact hz j (by omega) hj2, (fun h => h.elim ap_FpQ_b ap_A20_b), (fun h => h.elim ap_FpQ_S ap_A20_S), (fun k h1 hk => (fun h => h.elim (ap2_FpR_FpQ k h1) (ap2_FpR_A20 k h1)) hk), (fun h => h.elim ap_FpQ_b10 ap_A20_b10), (fun h => h.elim ap_FpQ_S5 ap_A20_S5), (fun g hg => (fun h => h.elim (gA_FpQ g) (gA_A20 g)) hg)⟩
  · skip
    have hc17 := of_decide_eq_false hc17
    refine wp_exit ?_
    refine fx_xt ?_
    refine fx_xt ?_
    refine fx_xx ?_
    refine fx_next ?_
    refine wp_seq ?_
    refine wp_region_lit ?_  -- region 9
    refine fx_val (v := .pointer (some ⟨b10, 0, none⟩)) fr rfl rfl (by first | decide | simp) (x_move rfl (fr.ev rfl)) ?_
    clear fr a; intro a fr
    refine fx_val (v := .pointer (some ⟨b10, 0, none⟩)) fr rfl rfl (by first | decide | simp) (x_assign rfl (fr.ev rfl)) ?_
    clear fr a; intro a fr
    refine wpList_nil ?_
    refine fx_next ?_
    refine wp_ret ?_
    refine fx_ret fr [.tmp 2] [.pointer (some ⟨b10, 0, none⟩)] rfl ⟨rfl, trivial⟩ rfl ?_
    exact ⟨_, rfl, b10, fun k => k = b10 ∨ k = S5 ∨ FpQ k, rfl, ⟨S5, FpQ, r2, B13, hS2, hR2, ne_S5_b10.symm, ap_FpQ_b10, ap_FpQ_S5, fun k => Iff.rfl, hl2, fun j hj => by rw [hy j (by omega), hP.row j hj], hP.bd, hP.uniq, hP.fits⟩, (fun g hg => by rcases hg with rfl | rfl | hg; exact g_b10; exact g_S5; exact (gA_FpQ g hg).resolve_left id), hF⟩
end Go.Proofs.Ytdjgfkjcpalihaa
