/-
  of, Find, Drop, Put. Printed by gen_c.py.
-/
import Derived.Test.YtdjgfkjcpalihaaLinN
namespace Go.Proofs.Ytdjgfkjcpalihaa
open Go.RowKit

set_option maxRecDepth 100000 in
set_option maxHeartbeats 4000000 in
theorem of_c (number : Int) (hnum : 0 ≤ number ∧ number < 4294967296) {w : World} {b n : Nat} {ways : Int} {S : Nat} {FpR : Nat → Prop} {rs : List Row} (hB : Blk w b 74 #[.slice (some ⟨S, 0, none⟩) n n, .int .i64 ways]) (hS : Blk w S 26 (rowsArr rs)) (hR : RowsAt w FpR rs) (hlen : rs.length = n) (hn : 0 < n ∧ n ≤ 64) {rA : Option Addr} {rc : Nat} {rl : List Ln} (hr : rs.getD (si n number) r0 = ⟨rA, rc, rl⟩) : Calls Try.prog 32 #[.pointer (some ⟨b, 0, none⟩), .int .u32 number] w (Ret fun v w' => v = .tuple #[.pointer (some ⟨S, si n number, none⟩), .int .i64 (fndI rl number)] ∧ New w w') := by
  have hsl := si_lt (n := n) (num := number) hn.1
  have hF := Only.refl (fun _ => False) w
  refine fx_enter Try.func32 rfl (N := (24, [])) (T := [(0, .pointer (some ⟨b, 0, none⟩)), (1, .int .u32 number)]) rfl (show 2 ≤ 24 by decide) ⟨rfl, rfl, trivial⟩ fun a fr => ?_
  refine wp_seq ?_
  refine wp_region_lit ?_  -- region 0
  refine fx_new fr rfl rfl (by first | decide | simp) (x_box (cs := #[.int .u32 number]) rfl (fr.ev rfl) rfl) ?_
  clear fr a
  intro b1 w2 hN3 B4 hb5 a fr
  have ne_b_b1 : NE b b1 := NE.mk (Nat.lt_of_lt_of_le hB.lt hb5)
  have ne_S_b1 : NE S b1 := NE.mk (Nat.lt_of_lt_of_le hS.lt hb5)
  have ap_FpR_b1 : ¬ FpR b1 := hR.apart hb5
  have g_b1 := Nat.le_trans hF.size hb5
  replace hB := hB.new hN3
  replace hS := hS.new hN3
  replace hR := hR.new hN3
  replace hF := hF.trNew hN3
  refine fx_val (v := .pointer none) fr rfl rfl (by first | decide | simp) (x_assign rfl rfl) ?_
  clear fr a; intro a fr
  refine fx_val (v := .int .i64 0) fr rfl rfl (by first | decide | simp) (x_assign rfl rfl) ?_
  clear fr a; intro a fr
  refine wpList_nil ?_
  refine fx_next ?_
  refine wp_seq ?_
  refine fx_heldT (n := 13) (k := 13) (fun w => Blk w b 74 #[.slice (some ⟨S, 0, none⟩) n n, .int .i64 ways] ∧ Blk w S 26 (rowsArr rs) ∧ RowsAt w FpR rs ∧ Blk w b1 33 (#[.int .u32 number]) ∧ True) (by kernel_rfl) (by kernel_rfl) rfl ?_  -- region 1
  intro w6 hN7
  replace hB := hB.new hN7
  replace hS := hS.new hN7
  replace hR := hR.new hN7
  replace B4 := B4.new hN7
  replace hF := hF.trNew hN7
  refine fx_take (i := 0) (v := .pointer (some ⟨b, 0, none⟩)) fr rfl (by kernel_rfl) rfl rfl (by first | decide | simp) (fun _ _ _ h => h) (fun _ ⟨hB, hS, hR, B4, _⟩ => x_move rfl (fr.ev rfl)) ⟨hB, hS, hR, B4, trivial⟩ ?_
  clear fr a; intro a fr
  refine fx_take (i := 1) (v := .pointer (some ⟨b, 0, none⟩)) fr rfl (by kernel_rfl) rfl rfl (by first | decide | simp) (fun _ _ _ h => h) (fun _ ⟨hB, hS, hR, B4, _⟩ => x_nilCheck rfl (fr.ev rfl)) ⟨hB, hS, hR, B4, trivial⟩ ?_
  clear fr a; intro a fr
  refine fx_take (i := 2) (v := .pointer (some ⟨b, 0, none⟩)) fr rfl (by kernel_rfl) rfl rfl (by first | decide | simp) (fun _ _ _ h => h) (fun _ ⟨hB, hS, hR, B4, _⟩ => x_fieldAddr fo74_0 rfl (fr.ev rfl) rfl) ⟨hB, hS, hR, B4, trivial⟩ ?_
  clear fr a; intro a fr
  refine fx_take (i := 3) (v := .slice (some ⟨S, 0, none⟩) n n) fr rfl (by kernel_rfl) rfl rfl (by first | decide | simp) (fun _ _ _ h => h) (fun _ ⟨hB, hS, hR, B4, _⟩ => x_load1 pl72 rfl (fr.ev rfl) (hB.cell 0 rfl)) ⟨hB, hS, hR, B4, trivial⟩ ?_
  clear fr a; intro a fr
  refine fx_take (i := 4) (v := .int .u32 number) fr rfl (by kernel_rfl) rfl rfl (by first | decide | simp) (fun _ _ _ h => h) (fun _ ⟨hB, hS, hR, B4, _⟩ => x_load1 pl33 rfl (fr.ev rfl) (B4.cell 0 rfl)) ⟨hB, hS, hR, B4, trivial⟩ ?_
  clear fr a; intro a fr
  refine fx_take (i := 5) (v := .pointer (some ⟨b, 0, none⟩)) fr rfl (by kernel_rfl) rfl rfl (by first | decide | simp) (fun _ _ _ h => h) (fun _ ⟨hB, hS, hR, B4, _⟩ => x_move rfl (fr.ev rfl)) ⟨hB, hS, hR, B4, trivial⟩ ?_
  clear fr a; intro a fr
  refine fx_take (i := 6) (v := .pointer (some ⟨b, 0, none⟩)) fr rfl (by kernel_rfl) rfl rfl (by first | decide | simp) (fun _ _ _ h => h) (fun _ ⟨hB, hS, hR, B4, _⟩ => x_nilCheck rfl (fr.ev rfl)) ⟨hB, hS, hR, B4, trivial⟩ ?_
  clear fr a; intro a fr
  refine fx_take (i := 7) (v := .pointer (some ⟨b, 0, none⟩)) fr rfl (by kernel_rfl) rfl rfl (by first | decide | simp) (fun _ _ _ h => h) (fun _ ⟨hB, hS, hR, B4, _⟩ => x_fieldAddr fo74_0 rfl (fr.ev rfl) rfl) ⟨hB, hS, hR, B4, trivial⟩ ?_
  clear fr a; intro a fr
  refine fx_take (i := 8) (v := .slice (some ⟨S, 0, none⟩) n n) fr rfl (by kernel_rfl) rfl rfl (by first | decide | simp) (fun _ _ _ h => h) (fun _ ⟨hB, hS, hR, B4, _⟩ => x_load1 pl72 rfl (fr.ev rfl) (hB.cell 0 rfl)) ⟨hB, hS, hR, B4, trivial⟩ ?_
  clear fr a; intro a fr
  refine fx_take (i := 9) (v := .int .i64 ((n : Nat) : Int)) fr rfl (by kernel_rfl) rfl rfl (by first | decide | simp) (fun _ _ _ h => h) (fun _ ⟨hB, hS, hR, B4, _⟩ => x_len Try.underlying72 rfl (fr.ev rfl)) ⟨hB, hS, hR, B4, trivial⟩ ?_
  clear fr a; intro a fr
  refine fx_take (i := 10) (v := .int .u32 ((n : Nat) : Int)) fr rfl (by kernel_rfl) rfl rfl (by first | decide | simp) (fun _ _ _ h => h) (fun _ ⟨hB, hS, hR, B4, _⟩ => x_convert Try.underlying3 Try.underlying33 rfl (fr.ev rfl) (u32w (r := ((n : Nat) : Int)) rfl (by omega))) ⟨hB, hS, hR, B4, trivial⟩ ?_
  clear fr a; intro a fr
  refine fx_take (i := 11) (v := .int .u32 ((si n number : Nat) : Int)) fr rfl (by kernel_rfl) rfl rfl (by first | decide | simp) (fun _ _ _ h => h) (fun _ ⟨hB, hS, hR, B4, _⟩ => x_rem rfl (fr.ev rfl) (fr.ev rfl) (by omega) (tmod_si (by omega) (by omega))) ⟨hB, hS, hR, B4, trivial⟩ ?_
  clear fr a; intro a fr
  refine fx_take (i := 12) (v := .pointer (some ⟨S, (si n number), none⟩)) fr rfl (by kernel_rfl) rfl rfl (by first | decide | simp) (fun _ _ _ h => h) (fun _ ⟨hB, hS, hR, B4, _⟩ => x_indexV Try.underlying72 sz26 rfl (fr.ev rfl) (show (some ⟨S, 0, none⟩ : Option Addr) = some ⟨S, 0, none⟩ from rfl) (fr.ev rfl) (by omega) (show 0 + (si n number) * 1 = si n number by omega)) ⟨hB, hS, hR, B4, trivial⟩ ?_
  clear fr a; intro a fr
  refine fx_hdone (by kernel_rfl) ?_
  refine fx_tail ?_
  refine fx_val (v := .pointer (some ⟨S, (si n number), none⟩)) fr rfl rfl (by first | decide | simp) (x_assign rfl (fr.ev rfl)) ?_
  clear fr a; intro a fr
  refine wpList_nil ?_
  refine fx_next ?_
  refine wp_seq ?_
  refine wp_region_lit ?_  -- region 2
  refine fx_val (v := .pointer (some ⟨S, (si n number), none⟩)) fr rfl rfl (by first | decide | simp) (x_move rfl (fr.ev rfl)) ?_
  clear fr a; intro a fr
  refine fx_val (v := .pointer (some ⟨S, (si n number), none⟩)) fr rfl rfl (by first | decide | simp) (x_nilCheck rfl (fr.ev rfl)) ?_
  clear fr a; intro a fr
  refine fx_val (v := .slice rA rl.length rc) fr rfl rfl (by first | decide | simp) (x_load1 pl26 rfl (fr.ev rfl) (hS.cell (si n number) (rows_cellAt (by omega) hr))) ?_
  clear fr a; intro a fr
  refine fx_val (v := .func (.func 42) #[] #[.pointer (some ⟨b1, 0, none⟩)]) fr rfl rfl (by first | decide | simp) (x_makeFunc (vs := [.pointer (some ⟨b1, 0, none⟩)]) rfl ⟨(fr.ev rfl), trivial⟩) ?_
  clear fr a; intro a fr
  refine fx_call fr rfl rfl (by first | decide | simp) (x_call (vs := [.slice rA rl.length rc, .func (.func 42) #[] #[.pointer (some ⟨b1, 0, none⟩)]]) rfl rfl ⟨(fr.ev rfl), (fr.ev rfl), trivial⟩ Try.func41 nm41 rfl) (index_c ((hR.at_ (by omega) hr).view) B4) ?_
  clear fr a
  rintro v w8 ⟨rfl, hN9⟩ a fr
  replace hB := hB.new hN9
  replace hS := hS.new hN9
  replace hR := hR.new hN9
  replace B4 := B4.new hN9
  replace hF := hF.trNew hN9
  refine fx_val (v := .int .i64 (fndI rl number)) fr rfl rfl (by first | decide | simp) (x_assign rfl (fr.ev rfl)) ?_
  clear fr a; intro a fr
  refine wpList_nil ?_
  refine fx_next ?_
  refine wp_ret ?_
  refine fx_ret fr [.tmp 4, .tmp 5] [.pointer (some ⟨S, (si n number), none⟩), .int .i64 (fndI rl number)] rfl ⟨rfl, rfl, trivial⟩ rfl ?_
  exact ⟨_, rfl, rfl, hF⟩
set_option maxRecDepth 100000 in
set_option maxHeartbeats 4000000 in
theorem find_c (number : Int) (hnum : 0 ≤ number ∧ number < 4294967296) {w : World} {Fp : Nat → Prop} {b n : Nat} {ways : Int} {L : List Ln} (H : LinesAt w Fp b n ways L) : Calls Try.prog 14 #[.pointer (some ⟨b, 0, none⟩), .int .u32 number] w (Ret fun v w' => v = .tuple #[.agg (lnE.arr ((getN L number).getD ln0)), .bool (getN L number).isSome] ∧ New w w') := by
  obtain ⟨S, FpR, rs, hB, hS, hR, hP⟩ := H
  have ne_b_S := hP.ne
  have ap_FpR_b := hP.apb
  have ap_FpR_S := hP.apS
  have hlen := hP.len
  obtain ⟨hn1, hn2, hw1, hw2⟩ := hP.bd
  have hsl := si_lt (n := n) (num := number) hn1
  obtain ⟨rA, rc, rl, hr⟩ : ∃ A9 c9 l9, rs.getD (si n number) r0 = ⟨A9, c9, l9⟩ := ⟨_, _, _, rfl⟩
  have hrl : rl = ofs n L (si n number) := by have := hP.row _ hsl; rw [hr] at this; exact this
  have hrow := hP.fits _ hsl
  rw [← hrl] at hrow
  have hF := Only.refl (fun _ => False) w
  refine fx_enter Try.func14 rfl (N := (24, [])) (T := [(0, .pointer (some ⟨b, 0, none⟩)), (1, .int .u32 number)]) rfl (show 2 ≤ 24 by decide) ⟨rfl, rfl, trivial⟩ fun a fr => ?_
  refine wp_seq ?_
  refine wp_region_lit ?_  -- region 0
  refine fx_new fr rfl rfl (by first | decide | simp) (x_alloc (z := .agg (#[.int .u32 0, .int .i64 0, .int .u8 0, .int .u8 0, .int .u8 0, .int .u8 0, .int .u8 0, .int .u8 0, .int .u8 0, .int .u8 0, .int .u8 0, .int .u8 0, .int .u8 0, .int .u8 0, .int .u8 0, .int .u8 0, .int .u8 0, .int .u8 0])) (cs := lnE.arr ln0) rfl (by kernel_rfl) rfl) ?_
  clear fr a
  intro b1 w2 hN3 B4 hb5 a fr
  have ne_b_b1 : NE b b1 := NE.mk (Nat.lt_of_lt_of_le hB.lt hb5)
  have ne_S_b1 : NE S b1 := NE.mk (Nat.lt_of_lt_of_le hS.lt hb5)
  have ap_FpR_b1 : ¬ FpR b1 := hR.apart hb5
  have g_b1 := Nat.le_trans hF.size hb5
  replace hB := hB.new hN3
  replace hS := hS.new hN3
  replace hR := hR.new hN3
  replace hF := hF.trNew hN3
  refine fx_val (v := .bool false) fr rfl rfl (by first | decide | simp) (x_assign rfl rfl) ?_
  clear fr a; intro a fr
  refine wpList_nil ?_
  refine fx_next ?_
  refine wp_seq ?_
  refine wp_seq ?_
  refine wp_region_lit ?_  -- region 1
  refine fx_val (v := .pointer (some ⟨b, 0, none⟩)) fr rfl rfl (by first | decide | simp) (x_move rfl (fr.ev rfl)) ?_
  clear fr a; intro a fr
  refine fx_call fr rfl rfl (by first | decide | simp) (x_call (vs := [.pointer (some ⟨b, 0, none⟩)]) rfl rfl ⟨(fr.ev rfl), trivial⟩ Try.func31 nm31 rfl) (none_some hB (by omega)) ?_
  clear fr a
  rintro v w9 ⟨rfl, hw9⟩ a fr
  obtain rfl := hw9.symm
  refine wpList_nil ?_
  refine fx_next ?_
  refine fx_cond_f fr rfl ?_
  refine wp_skip ?_
  refine fx_next ?_
  refine wp_seq ?_
  refine wp_region_lit ?_  -- region 2
  refine fx_val (v := .pointer (some ⟨b, 0, none⟩)) fr rfl rfl (by first | decide | simp) (x_move rfl (fr.ev rfl)) ?_
  clear fr a; intro a fr
  refine fx_val (v := .int .u32 number) fr rfl rfl (by first | decide | simp) (x_move rfl (fr.ev rfl)) ?_
  clear fr a; intro a fr
  refine fx_call fr rfl rfl (by first | decide | simp) (x_call (vs := [.pointer (some ⟨b, 0, none⟩), .int .u32 number]) rfl rfl ⟨(fr.ev rfl), (fr.ev rfl), trivial⟩ Try.func32 nm32 rfl) (of_c number (by omega) hB hS hR hlen (by omega) hr) ?_
  clear fr a
  rintro v w8 ⟨rfl, hN9⟩ a fr
  replace hB := hB.new hN9
  replace hS := hS.new hN9
  replace hR := hR.new hN9
  replace B4 := B4.new hN9
  replace hF := hF.trNew hN9
  refine fx_val (v := .tuple #[.pointer (some ⟨S, si n number, none⟩), .int .i64 (fndI rl number)]) fr rfl rfl (by first | decide | simp) (x_move rfl (fr.ev rfl)) ?_
  clear fr a; intro a fr
  refine fx_val (v := .pointer (some ⟨S, si n number, none⟩)) fr rfl rfl (by first | decide | simp) (x_extract rfl (fr.ev rfl) rfl) ?_
  clear fr a; intro a fr
  refine fx_val (v := .int .i64 (fndI rl number)) fr rfl rfl (by first | decide | simp) (x_extract rfl (fr.ev rfl) rfl) ?_
  clear fr a; intro a fr
  refine fx_val (v := .pointer (some ⟨S, si n number, none⟩)) fr rfl rfl (by first | decide | simp) (x_assign rfl (fr.ev rfl)) ?_
  clear fr a; intro a fr
  refine fx_val (v := .int .i64 (fndI rl number)) fr rfl rfl (by first | decide | simp) (x_assign rfl (fr.ev rfl)) ?_
  clear fr a; intro a fr
  refine wpList_nil ?_
  refine fx_next ?_
  refine wp_seq ?_
  refine wp_seq ?_
  rcases fnd_spec rl number with ⟨hf, hno⟩ | ⟨i, hf, hi, hin, hall⟩
  · skip
    rw [hf] at fr
    have hg : getN L number = none := by rw [← ofs_get (n := n), ← hrl]; exact fnd_none ⟨hf, hno⟩
    refine wp_region_lit ?_  -- region 3
    refine fx_val (v := .int .i64 (-1)) fr rfl rfl (by first | decide | simp) (x_move rfl (fr.ev rfl)) ?_
    clear fr a; intro a fr
    refine fx_val (v := .bool true) fr rfl rfl (by first | decide | simp) (x_lss rfl (fr.ev rfl) rfl rfl) ?_
    clear fr a; intro a fr
    refine wpList_nil ?_
    refine fx_next ?_
    refine fx_cond_t fr rfl ?_
    refine wp_ret ?_
    refine fx_rt ?_
    refine fx_ret fr [.cell 4 39, .tmp 5] [.agg (lnE.arr ln0), .bool false] rfl ⟨⟨_, rfl, loadV_E (E := lnE) ag39 rfl (B4.rangeE lnE)⟩, rfl, trivial⟩ rfl ?_
    rw [hg]
    exact ⟨_, rfl, rfl, hF⟩
  · skip
    rw [hf] at fr
    have hi0 : ¬ ((i : Nat) : Int) < 0 := by omega
    have hi1 : 0 ≤ ((i : Nat) : Int) := by omega
    have hg : getN L number = some (rl.getD i ln0) := by rw [← ofs_get (n := n), ← hrl]; exact get_at hi hin hall
    refine wp_region_lit ?_  -- region 3
    refine fx_val (v := .int .i64 ((i : Nat) : Int)) fr rfl rfl (by first | decide | simp) (x_move rfl (fr.ev rfl)) ?_
    clear fr a; intro a fr
    refine fx_val (v := .bool false) fr rfl rfl (by first | decide | simp) (x_lss rfl (fr.ev rfl) rfl (decide_eq_false hi0)) ?_
    clear fr a; intro a fr
    refine wpList_nil ?_
    refine fx_next ?_
    refine fx_cond_f fr rfl ?_
    refine wp_skip ?_
    refine fx_next ?_
    refine wp_seq ?_
    refine wp_region_lit ?_  -- region 4
    refine fx_val (v := .pointer (some ⟨S, si n number, none⟩)) fr rfl rfl (by first | decide | simp) (x_move rfl (fr.ev rfl)) ?_
    clear fr a; intro a fr
    refine fx_val (v := .pointer (some ⟨S, si n number, none⟩)) fr rfl rfl (by first | decide | simp) (x_nilCheck rfl (fr.ev rfl)) ?_
    clear fr a; intro a fr
    refine fx_val (v := .slice rA rl.length rc) fr rfl rfl (by first | decide | simp) (x_load1 pl26 rfl (fr.ev rfl) (hS.cell (si n number) (rows_cellAt (by omega) hr))) ?_
    clear fr a; intro a fr
    refine fx_val (v := .int .i64 ((i : Nat) : Int)) fr rfl rfl (by first | decide | simp) (x_move rfl (fr.ev rfl)) ?_
    clear fr a; intro a fr
    obtain ⟨g10, o11, hA12⟩ := ((hR.at_ (by omega) hr).view).some_ (by omega)
    refine fx_val (v := .pointer (some ⟨g10, o11 + i * 18, none⟩)) fr rfl rfl (by first | decide | simp) (x_indexV Try.underlying26 sz39 rfl (fr.ev rfl) hA12 (fr.ev rfl) (by omega) rfl) ?_
    clear fr a; intro a fr
    refine fx_val (v := .agg (lnE.arr (rl.getD i ln0))) fr rfl rfl (by first | decide | simp) (x_loadE (E := lnE) ag39 rfl rfl (fr.ev rfl) (((hR.at_ (by omega) hr).view).elem hA12 i ln0 (by omega))) ?_
    clear fr a; intro a fr
    refine fx_storeS sz39 rfl rfl rfl (fr.ev rfl) (fr.ev rfl) (lnE.all _) B4 (lnE.size _) (lnE.size _) fun w13 hO14 hBq => ?_
    replace hB := hB.only hO14 (by first | exact ne_b_b1 | exact ne_b1_b.symm | (show ¬ b = b1; omega))
    replace hS := hS.only hO14 (by first | exact ne_S_b1 | exact ne_b1_S.symm | (show ¬ S = b1; omega))
    replace hR := hR.only hO14 (ne1P ap_FpR_b1)
    replace hF := hF.loc hO14 (.inr g_b1)
    replace B4 := hBq
    clear hBq
    refine fx_val (v := .bool true) fr rfl rfl (by first | decide | simp) (x_assign rfl rfl) ?_
    clear fr a; intro a fr
    refine wpList_nil ?_
    refine fx_next ?_
    refine wp_ret ?_
    refine fx_ret fr [.cell 4 39, .tmp 5] [.agg (lnE.arr (rl.getD i ln0)), .bool true] rfl ⟨⟨_, rfl, loadV_E (E := lnE) ag39 rfl (B4.rangeE lnE)⟩, rfl, trivial⟩ rfl ?_
    rw [hg]
    exact ⟨_, rfl, rfl, hF⟩
set_option maxRecDepth 100000 in
set_option maxHeartbeats 4000000 in
theorem find_nil (number : Int) (w : World) : Calls Try.prog 14 #[.pointer none, .int .u32 number] w (Ret fun v w' => v = .tuple #[.agg (lnE.arr ln0), .bool false] ∧ New w w') := by
  have hF := Only.refl (fun _ => False) w
  refine fx_enter Try.func14 rfl (N := (24, [])) (T := [(0, .pointer none), (1, .int .u32 number)]) rfl (show 2 ≤ 24 by decide) ⟨rfl, rfl, trivial⟩ fun a fr => ?_
  refine wp_seq ?_
  refine wp_region_lit ?_  -- region 0
  refine fx_new fr rfl rfl (by first | decide | simp) (x_alloc (z := .agg (#[.int .u32 0, .int .i64 0, .int .u8 0, .int .u8 0, .int .u8 0, .int .u8 0, .int .u8 0, .int .u8 0, .int .u8 0, .int .u8 0, .int .u8 0, .int .u8 0, .int .u8 0, .int .u8 0, .int .u8 0, .int .u8 0, .int .u8 0, .int .u8 0])) (cs := lnE.arr ln0) rfl (by kernel_rfl) rfl) ?_
  clear fr a
  intro b1 w2 hN3 B4 hb5 a fr
  have g_b1 := Nat.le_trans hF.size hb5
  replace hF := hF.trNew hN3
  refine fx_val (v := .bool false) fr rfl rfl (by first | decide | simp) (x_assign rfl rfl) ?_
  clear fr a; intro a fr
  refine wpList_nil ?_
  refine fx_next ?_
  refine wp_seq ?_
  refine wp_seq ?_
  refine wp_region_lit ?_  -- region 1
  refine fx_val (v := .pointer none) fr rfl rfl (by first | decide | simp) (x_move rfl (fr.ev rfl)) ?_
  clear fr a; intro a fr
  refine fx_call fr rfl rfl (by first | decide | simp) (x_call (vs := [.pointer none]) rfl rfl ⟨(fr.ev rfl), trivial⟩ Try.func31 nm31 rfl) (none_nil _) ?_
  clear fr a
  rintro v w9 ⟨rfl, hw9⟩ a fr
  obtain rfl := hw9.symm
  refine wpList_nil ?_
  refine fx_next ?_
  refine fx_cond_t fr rfl ?_
  refine wp_ret ?_
  refine fx_rt ?_
  refine fx_ret fr [.cell 4 39, .tmp 5] [.agg (lnE.arr ln0), .bool false] rfl ⟨⟨_, rfl, loadV_E (E := lnE) ag39 rfl (B4.rangeE lnE)⟩, rfl, trivial⟩ rfl ?_
  exact ⟨_, rfl, rfl, hF⟩
set_option maxRecDepth 100000 in
set_option maxHeartbeats 4000000 in
theorem drop_c (number : Int) (hnum : 0 ≤ number ∧ number < 4294967296) {w : World} {Fp : Nat → Prop} {b n : Nat} {ways : Int} {L : List Ln} (H : LinesAt w Fp b n ways L) : Calls Try.prog 22 #[.pointer (some ⟨b, 0, none⟩), .int .u32 number] w (Ret fun v w' => v = .bool (getN L number).isSome ∧ ∃ Fp', LinesAt w' Fp' b n ways (dropL L number) ∧ Only Fp w w' ∧ ∀ g, Fp' g → Fp g ∨ w.heap.size ≤ g) := by
  obtain ⟨S, FpR, rs, hB, hS, hR, hP⟩ := H
  have ne_b_S := hP.ne
  have ap_FpR_b := hP.apb
  have ap_FpR_S := hP.apS
  have hlen := hP.len
  obtain ⟨hn1, hn2, hw1, hw2⟩ := hP.bd
  have hsl := si_lt (n := n) (num := number) hn1
  obtain ⟨rA, rc, rl, hr⟩ : ∃ A9 c9 l9, rs.getD (si n number) r0 = ⟨A9, c9, l9⟩ := ⟨_, _, _, rfl⟩
  have hrl : rl = ofs n L (si n number) := by have := hP.row _ hsl; rw [hr] at this; exact this
  have hrow := hP.fits _ hsl
  rw [← hrl] at hrow
  have hFb : Fp b := (hP.foot b).2 (.inl rfl)
  have hFS : Fp S := (hP.foot S).2 (.inr (.inl rfl))
  have gA_FpR : ∀ g, FpR g → Fp g ∨ w.heap.size ≤ g := fun g hg => .inl ((hP.foot g).2 (.inr (.inr hg)))
  have hF := Only.refl (Fp) w
  refine fx_enter Try.func22 rfl (N := (26, [])) (T := [(0, .pointer (some ⟨b, 0, none⟩)), (1, .int .u32 number)]) rfl (show 2 ≤ 26 by decide) ⟨rfl, rfl, trivial⟩ fun a fr => ?_
  refine wp_seq ?_
  refine wp_region_lit ?_  -- region 0
  refine fx_val (v := .bool false) fr rfl rfl (by first | decide | simp) (x_assign rfl rfl) ?_
  clear fr a; intro a fr
  refine wpList_nil ?_
  refine fx_next ?_
  refine wp_seq ?_
  refine wp_seq ?_
  refine wp_region_lit ?_  -- region 1
  refine fx_val (v := .pointer (some ⟨b, 0, none⟩)) fr rfl rfl (by first | decide | simp) (x_move rfl (fr.ev rfl)) ?_
  clear fr a; intro a fr
  refine fx_call fr rfl rfl (by first | decide | simp) (x_call (vs := [.pointer (some ⟨b, 0, none⟩)]) rfl rfl ⟨(fr.ev rfl), trivial⟩ Try.func31 nm31 rfl) (none_some hB (by omega)) ?_
  clear fr a
  rintro v w9 ⟨rfl, hw9⟩ a fr
  obtain rfl := hw9.symm
  refine wpList_nil ?_
  refine fx_next ?_
  refine fx_cond_f fr rfl ?_
  refine wp_skip ?_
  refine fx_next ?_
  refine wp_seq ?_
  refine wp_region_lit ?_  -- region 3
  refine fx_val (v := .pointer (some ⟨b, 0, none⟩)) fr rfl rfl (by first | decide | simp) (x_move rfl (fr.ev rfl)) ?_
  clear fr a; intro a fr
  refine fx_val (v := .int .u32 number) fr rfl rfl (by first | decide | simp) (x_move rfl (fr.ev rfl)) ?_
  clear fr a; intro a fr
  refine fx_call fr rfl rfl (by first | decide | simp) (x_call (vs := [.pointer (some ⟨b, 0, none⟩), .int .u32 number]) rfl rfl ⟨(fr.ev rfl), (fr.ev rfl), trivial⟩ Try.func32 nm32 rfl) (of_c number (by omega) hB hS hR hlen (by omega) hr) ?_
  clear fr a
  rintro v w3 ⟨rfl, hN4⟩ a fr
  replace hB := hB.new hN4
  replace hS := hS.new hN4
  replace hR := hR.new hN4
  replace hF := hF.trNew hN4
  refine fx_val (v := .tuple #[.pointer (some ⟨S, si n number, none⟩), .int .i64 (fndI rl number)]) fr rfl rfl (by first | decide | simp) (x_move rfl (fr.ev rfl)) ?_
  clear fr a; intro a fr
  refine fx_val (v := .pointer (some ⟨S, si n number, none⟩)) fr rfl rfl (by first | decide | simp) (x_extract rfl (fr.ev rfl) rfl) ?_
  clear fr a; intro a fr
  refine fx_val (v := .int .i64 (fndI rl number)) fr rfl rfl (by first | decide | simp) (x_extract rfl (fr.ev rfl) rfl) ?_
  clear fr a; intro a fr
  refine fx_val (v := .pointer (some ⟨S, si n number, none⟩)) fr rfl rfl (by first | decide | simp) (x_assign rfl (fr.ev rfl)) ?_
  clear fr a; intro a fr
  refine fx_val (v := .int .i64 (fndI rl number)) fr rfl rfl (by first | decide | simp) (x_assign rfl (fr.ev rfl)) ?_
  clear fr a; intro a fr
  refine wpList_nil ?_
  refine fx_next ?_
  refine wp_seq ?_
  refine wp_seq ?_
  rcases fnd_spec rl number with ⟨hf, hno⟩ | ⟨i, hf, hi, hin, hall⟩
  · skip
    rw [hf] at fr
    have hg : getN L number = none := by rw [← ofs_get (n := n), ← hrl]; exact fnd_none ⟨hf, hno⟩
    refine wp_region_lit ?_  -- region 4
    refine fx_val (v := .int .i64 (-1)) fr rfl rfl (by first | decide | simp) (x_move rfl (fr.ev rfl)) ?_
    clear fr a; intro a fr
    refine fx_val (v := .bool true) fr rfl rfl (by first | decide | simp) (x_lss rfl (fr.ev rfl) rfl rfl) ?_
    clear fr a; intro a fr
    refine wpList_nil ?_
    refine fx_next ?_
    refine fx_cond_t fr rfl ?_
    refine wp_seq ?_
    refine wp_region_lit ?_  -- region 5
    refine fx_val (v := .bool false) fr rfl rfl (by first | decide | simp) (x_assign rfl rfl) ?_
    clear fr a; intro a fr
    refine wpList_nil ?_
    refine fx_next ?_
    refine wp_ret ?_
    refine fx_rt ?_
    refine fx_ret fr [.tmp 4] [.bool false] rfl ⟨rfl, trivial⟩ rfl ?_
    have hd : dropL L number = L := rem_no (get_none hg)
    rw [hg, hd]
    exact ⟨_, rfl, rfl, Fp, ⟨S, FpR, rs, hB, hS, hR, hP⟩, hF, fun g hg => .inl hg⟩
  · skip
    rw [hf] at fr
    have hi0 : ¬ ((i : Nat) : Int) < 0 := by omega
    have hi1 : 0 ≤ ((i : Nat) : Int) := by omega
    have hg : getN L number = some (rl.getD i ln0) := by rw [← ofs_get (n := n), ← hrl]; exact get_at hi hin hall
    refine wp_region_lit ?_  -- region 4
    refine fx_val (v := .int .i64 ((i : Nat) : Int)) fr rfl rfl (by first | decide | simp) (x_move rfl (fr.ev rfl)) ?_
    clear fr a; intro a fr
    refine fx_val (v := .bool false) fr rfl rfl (by first | decide | simp) (x_lss rfl (fr.ev rfl) rfl (decide_eq_false hi0)) ?_
    clear fr a; intro a fr
    refine wpList_nil ?_
    refine fx_next ?_
    refine fx_cond_f fr rfl ?_
    refine wp_skip ?_
    refine fx_next ?_
    refine wp_seq ?_
    obtain ⟨FpT, hT, hO, hAT, hFT⟩ := hR.splitAt (by omega) hr
    have ap2_rA_FpT : ∀ k, inA rA k → FpT k → False := hAT
    have ap_FpT_b : ¬ FpT b := fun h => ap_FpR_b ((hFT _).2 (.inl h))
    have ap_rA_b : Apart rA b := fun h => ap_FpR_b ((hFT _).2 (.inr h))
    have ap_FpT_S : ¬ FpT S := fun h => ap_FpR_S ((hFT _).2 (.inl h))
    have ap_rA_S : Apart rA S := fun h => ap_FpR_S ((hFT _).2 (.inr h))
    have gA_FpT : ∀ g, FpT g → Fp g ∨ w.heap.size ≤ g := fun g hg => gA_FpR g ((hFT g).2 (.inl hg))
    have gA_rA : ∀ g, inA rA g → Fp g ∨ w.heap.size ≤ g := fun g hg => gA_FpR g ((hFT g).2 (.inr hg))
    refine wp_region_lit ?_  -- region 6
    refine fx_val (v := .pointer (some ⟨S, si n number, none⟩)) fr rfl rfl (by first | decide | simp) (x_move rfl (fr.ev rfl)) ?_
    clear fr a; intro a fr
    refine fx_val (v := .pointer (some ⟨S, si n number, none⟩)) fr rfl rfl (by first | decide | simp) (x_move rfl (fr.ev rfl)) ?_
    clear fr a; intro a fr
    refine fx_val (v := .pointer (some ⟨S, si n number, none⟩)) fr rfl rfl (by first | decide | simp) (x_nilCheck rfl (fr.ev rfl)) ?_
    clear fr a; intro a fr
    refine fx_val (v := .slice rA rl.length rc) fr rfl rfl (by first | decide | simp) (x_load1 pl26 rfl (fr.ev rfl) (hS.cell (si n number) (rows_cellAt (by omega) hr))) ?_
    clear fr a; intro a fr
    refine fx_val (v := .int .i64 ((i : Nat) : Int)) fr rfl rfl (by first | decide | simp) (x_move rfl (fr.ev rfl)) ?_
    clear fr a; intro a fr
    refine fx_val (v := .int .i64 ((i : Nat) : Int)) fr rfl rfl (by first | decide | simp) (x_move rfl (fr.ev rfl)) ?_
    clear fr a; intro a fr
    refine fx_val (v := .int .i64 ((i + 1 : Nat) : Int)) fr rfl rfl (by first | decide | simp) (x_add rfl (fr.ev rfl) rfl (i64w (r := ((i + 1 : Nat) : Int)) (by omega) (by omega))) ?_
    clear fr a; intro a fr
    refine fx_call fr rfl rfl (by first | decide | simp) (x_call (vs := [.slice rA rl.length rc, .int .i64 ((i : Nat) : Int), .int .i64 ((i + 1 : Nat) : Int)]) rfl rfl ⟨(fr.ev rfl), (fr.ev rfl), (fr.ev rfl), trivial⟩ Try.func36 nm36 rfl) (delete_c hO i hi) ?_
    clear fr a
    rintro v w6 ⟨rfl, O5, hN7⟩ a fr
    replace hB := hB.only hN7 ap_rA_b
    replace hS := hS.only hN7 ap_rA_S
    replace hT := hT.only hN7 (fun g h1 h2 => (symP ap2_rA_FpT) g h1 h2)
    replace hF := hF.locA hN7 gA_rA
    replace hO := O5
    refine fx_val (v := .pointer (some ⟨S, si n number, none⟩)) fr rfl rfl (by first | decide | simp) (x_nilCheck rfl (fr.ev rfl)) ?_
    clear fr a; intro a fr
    refine fx_store1 sz26 rfl rfl rfl (fr.ev rfl) (fr.ev rfl) rfl hS (by rw [rows_size]; omega) (cs' := rowsArr (rs.set (si n number) ⟨rA, rc, rl.take i ++ rl.drop (i + 1)⟩)) (rows_set rs (r := ⟨rA, rc, rl.take i ++ rl.drop (i + 1)⟩)) fun w8 hO9 hBq => ?_
    replace hB := hB.only hO9 (by first | exact ne_b_S | exact ne_S_b.symm | (show ¬ b = S; omega))
    replace hT := hT.only hO9 (ne1P ap_FpT_S)
    replace hO := hO.only hO9 (Apart.ne1 ap_rA_S)
    replace hF := hF.loc hO9 (.inl hFS)
    replace hS := hBq
    clear hBq
    refine wpList_nil ?_
    refine fx_next ?_
    refine wp_seq ?_
    refine wp_region_lit ?_  -- region 7
    refine fx_val (v := .bool true) fr rfl rfl (by first | decide | simp) (x_assign rfl rfl) ?_
    clear fr a; intro a fr
    refine wpList_nil ?_
    refine fx_next ?_
    refine wp_ret ?_
    refine fx_ret fr [.tmp 4] [.bool true] rfl ⟨rfl, trivial⟩ rfl ?_
    have hl9 : rl.take i ++ rl.drop (i + 1) = ofs n (dropL L number) (si n number) := by rw [rem_at hi hin hall, hrl, remf_uniq (hP.uniq.ofs _), ofs_drop]
    rw [hg]
    exact ⟨_, rfl, rfl, _, lines_put hB hS hT hO (by omega) hAT ne_b_S ap_FpT_b ap_FpT_S ap_rA_b ap_rA_S hlen (fun j hj hne => by rw [hP.row j hj, ofs_drop_other _ _ hne]) hl9 hP.bd (hP.uniq.drop _) (hP.fits.drop _), hF, (fun g hg => by rcases hg with rfl | rfl | hg | hg; exact .inl hFb; exact .inl hFS; exact gA_FpT g hg; exact gA_rA g hg)⟩
set_option maxRecDepth 100000 in
set_option maxHeartbeats 4000000 in
theorem drop_nil (number : Int) (w : World) : Calls Try.prog 22 #[.pointer none, .int .u32 number] w (Ret fun v w' => v = .bool false ∧ New w w') := by
  have hF := Only.refl (fun _ => False) w
  refine fx_enter Try.func22 rfl (N := (26, [])) (T := [(0, .pointer none), (1, .int .u32 number)]) rfl (show 2 ≤ 26 by decide) ⟨rfl, rfl, trivial⟩ fun a fr => ?_
  refine wp_seq ?_
  refine wp_region_lit ?_  -- region 0
  refine fx_val (v := .bool false) fr rfl rfl (by first | decide | simp) (x_assign rfl rfl) ?_
  clear fr a; intro a fr
  refine wpList_nil ?_
  refine fx_next ?_
  refine wp_seq ?_
  refine wp_seq ?_
  refine wp_region_lit ?_  -- region 1
  refine fx_val (v := .pointer none) fr rfl rfl (by first | decide | simp) (x_move rfl (fr.ev rfl)) ?_
  clear fr a; intro a fr
  refine fx_call fr rfl rfl (by first | decide | simp) (x_call (vs := [.pointer none]) rfl rfl ⟨(fr.ev rfl), trivial⟩ Try.func31 nm31 rfl) (none_nil _) ?_
  clear fr a
  rintro v w9 ⟨rfl, hw9⟩ a fr
  obtain rfl := hw9.symm
  refine wpList_nil ?_
  refine fx_next ?_
  refine fx_cond_t fr rfl ?_
  refine wp_seq ?_
  refine wp_region_lit ?_  -- region 2
  refine fx_val (v := .bool false) fr rfl rfl (by first | decide | simp) (x_assign rfl rfl) ?_
  clear fr a; intro a fr
  refine wpList_nil ?_
  refine fx_next ?_
  refine wp_ret ?_
  refine fx_rt ?_
  refine fx_ret fr [.tmp 4] [.bool false] rfl ⟨rfl, trivial⟩ rfl ?_
  exact ⟨_, rfl, rfl, hF⟩
set_option maxRecDepth 100000 in
set_option maxHeartbeats 4000000 in
theorem put_c (l : Ln) {w : World} {Fp : Nat → Prop} {b n : Nat} {ways : Int} {L : List Ln} (H : LinesAt w Fp b n ways L) : Calls Try.prog 21 #[.pointer (some ⟨b, 0, none⟩), .agg (lnE.arr l)] w (Ret fun v w' => v = .int .i64 (putE n ways L l) ∧ ∃ Fp', LinesAt w' Fp' b n ways (putL n ways L l) ∧ Only Fp w w' ∧ ∀ g, Fp' g → Fp g ∨ w.heap.size ≤ g) := by
  have hnum := l.hn
  obtain ⟨S, FpR, rs, hB, hS, hR, hP⟩ := H
  have ne_b_S := hP.ne
  have ap_FpR_b := hP.apb
  have ap_FpR_S := hP.apS
  have hlen := hP.len
  obtain ⟨hn1, hn2, hw1, hw2⟩ := hP.bd
  have hsl := si_lt (n := n) (num := l.num) hn1
  obtain ⟨rA, rc, rl, hr⟩ : ∃ A9 c9 l9, rs.getD (si n l.num) r0 = ⟨A9, c9, l9⟩ := ⟨_, _, _, rfl⟩
  have hrl : rl = ofs n L (si n l.num) := by have := hP.row _ hsl; rw [hr] at this; exact this
  have hrow := hP.fits _ hsl
  rw [← hrl] at hrow
  have hFb : Fp b := (hP.foot b).2 (.inl rfl)
  have hFS : Fp S := (hP.foot S).2 (.inr (.inl rfl))
  have gA_FpR : ∀ g, FpR g → Fp g ∨ w.heap.size ≤ g := fun g hg => .inl ((hP.foot g).2 (.inr (.inr hg)))
  have hF := Only.refl (Fp) w
  refine fx_enter Try.func21 rfl (N := (51, [])) (T := [(0, .pointer (some ⟨b, 0, none⟩)), (1, .agg (lnE.arr l))]) rfl (show 2 ≤ 51 by decide) ⟨rfl, rfl, trivial⟩ fun a fr => ?_
  refine wp_seq ?_
  refine wp_region_lit ?_  -- region 0
  refine fx_new fr rfl rfl (by first | decide | simp) (x_box (cs := lnE.arr l) rfl (fr.ev rfl) rfl) ?_
  clear fr a
  intro b1 w2 hN3 B4 hb5 a fr
  have ne_b_b1 : NE b b1 := NE.mk (Nat.lt_of_lt_of_le hB.lt hb5)
  have ne_S_b1 : NE S b1 := NE.mk (Nat.lt_of_lt_of_le hS.lt hb5)
  have ap_FpR_b1 : ¬ FpR b1 := hR.apart hb5
  have g_b1 := Nat.le_trans hF.size hb5
  replace hB := hB.new hN3
  replace hS := hS.new hN3
  replace hR := hR.new hN3
  replace hF := hF.trNew hN3
  refine fx_val (v := .int .i64 0) fr rfl rfl (by first | decide | simp) (x_assign rfl rfl) ?_
  clear fr a; intro a fr
  refine wpList_nil ?_
  refine fx_next ?_
  refine wp_seq ?_
  refine wp_seq ?_
  refine wp_region_lit ?_  -- region 1
  refine fx_val (v := .pointer (some ⟨b, 0, none⟩)) fr rfl rfl (by first | decide | simp) (x_move rfl (fr.ev rfl)) ?_
  clear fr a; intro a fr
  refine fx_call fr rfl rfl (by first | decide | simp) (x_call (vs := [.pointer (some ⟨b, 0, none⟩)]) rfl rfl ⟨(fr.ev rfl), trivial⟩ Try.func31 nm31 rfl) (none_some hB (by omega)) ?_
  clear fr a
  rintro v w9 ⟨rfl, hw9⟩ a fr
  obtain rfl := hw9.symm
  refine wpList_nil ?_
  refine fx_next ?_
  refine fx_cond_f fr rfl ?_
  refine wp_skip ?_
  refine fx_next ?_
  refine wp_seq ?_
  refine wp_seq ?_
  refine wp_region_lit ?_  -- region 3
  refine fx_val (v := .pointer (some ⟨b1, 1, none⟩)) fr rfl rfl (by first | decide | simp) (x_fieldAddr fo39_1 rfl (fr.ev rfl) rfl) ?_
  clear fr a; intro a fr
  refine fx_val (v := .int .i64 l.state) fr rfl rfl (by first | decide | simp) (x_load1 pl36 rfl (fr.ev rfl) (B4.cell 1 rfl)) ?_
  clear fr a; intro a fr
  refine fx_val (v := .bool (decide (l.state < 1))) fr rfl rfl (by first | decide | simp) (x_lss rfl (fr.ev rfl) rfl rfl) ?_
  clear fr a; intro a fr
  refine fx_val (v := .bool (decide (l.state < 1))) fr rfl rfl (by first | decide | simp) (x_move rfl (fr.ev rfl)) ?_
  clear fr a; intro a fr
  refine fx_may (g := !(decide (l.state < 1))) (v := .pointer (some ⟨b1, 1, none⟩)) fr rfl rfl rfl (by simp) rfl (by first | decide | simp) (fun hg => x_fieldAddr fo39_1 rfl (fr.ev rfl) rfl) ?_
  clear fr a; intro a fr
  refine fx_may (g := !(decide (l.state < 1))) (v := .int .i64 l.state) fr rfl rfl rfl (by simp) rfl (by first | decide | simp) (fun hg => x_load1 pl36 rfl ((fr.ev rfl).trans (onlyIf_t hg)) (B4.cell 1 rfl)) ?_
  clear fr a; intro a fr
  refine fx_may (g := !(decide (l.state < 1))) (v := .bool (decide (3 < l.state))) fr rfl rfl rfl (by simp) rfl (by first | decide | simp) (fun hg => x_gtr rfl ((fr.ev rfl).trans (onlyIf_t hg)) rfl rfl) ?_
  clear fr a; intro a fr
  refine fx_val (v := .bool ((decide (l.state < 1)) || (decide (3 < l.state)))) fr rfl rfl (by first | decide | simp) (x_pick_or rfl (fr.ev rfl) (fun _ => rfl) (fun hb => ((fr.ev rfl)).trans (onlyIf_t (by simp_all))) rfl) ?_
  clear fr a; intro a fr
  refine wpList_nil ?_
  refine fx_next ?_
  refine fx_cond fr rfl (fun hc8 => ?_) (fun hc8 => ?_)
  · skip
    have hc8s := hc8
    try simp at hc8s
    refine wp_seq ?_
    refine wp_region_lit ?_  -- region 4
    refine fx_val (v := .int .i64 2) fr rfl rfl (by first | decide | simp) (x_assign rfl rfl) ?_
    clear fr a; intro a fr
    refine wpList_nil ?_
    refine fx_next ?_
    refine wp_ret ?_
    refine fx_rt ?_
    refine fx_ret fr [.tmp 4] [.int .i64 2] rfl ⟨rfl, trivial⟩ rfl ?_
    have ho : okS l = false := by unfold okS; simp; omega
    have e1 : putE n ways L l = 2 := by unfold putE; rw [if_pos ho]
    have e2 : putL n ways L l = L := by unfold putL; rw [e1]; rfl
    rw [e1, e2]
    exact ⟨_, rfl, rfl, Fp, ⟨S, FpR, rs, hB, hS, hR, hP⟩, hF, fun g hg => .inl hg⟩
  · skip
    have hc8s := hc8
    try simp at hc8s
    refine wp_skip ?_
    refine fx_next ?_
    refine wp_seq ?_
    refine wp_region_lit ?_  -- region 5
    refine fx_val (v := .pointer (some ⟨b, 0, none⟩)) fr rfl rfl (by first | decide | simp) (x_move rfl (fr.ev rfl)) ?_
    clear fr a; intro a fr
    refine fx_val (v := .pointer (some ⟨b1, 0, none⟩)) fr rfl rfl (by first | decide | simp) (x_fieldAddr fo39_0 rfl (fr.ev rfl) rfl) ?_
    clear fr a; intro a fr
    refine fx_val (v := .int .u32 l.num) fr rfl rfl (by first | decide | simp) (x_load1 pl33 rfl (fr.ev rfl) (B4.cell 0 rfl)) ?_
    clear fr a; intro a fr
    refine fx_call fr rfl rfl (by first | decide | simp) (x_call (vs := [.pointer (some ⟨b, 0, none⟩), .int .u32 l.num]) rfl rfl ⟨(fr.ev rfl), (fr.ev rfl), trivial⟩ Try.func32 nm32 rfl) (of_c l.num (by omega) hB hS hR hlen (by omega) hr) ?_
    clear fr a
    rintro v w9 ⟨rfl, hN10⟩ a fr
    replace hB := hB.new hN10
    replace hS := hS.new hN10
    replace hR := hR.new hN10
    replace B4 := B4.new hN10
    replace hF := hF.trNew hN10
    refine fx_val (v := .tuple #[.pointer (some ⟨S, si n l.num, none⟩), .int .i64 (fndI rl l.num)]) fr rfl rfl (by first | decide | simp) (x_move rfl (fr.ev rfl)) ?_
    clear fr a; intro a fr
    refine fx_val (v := .pointer (some ⟨S, si n l.num, none⟩)) fr rfl rfl (by first | decide | simp) (x_extract rfl (fr.ev rfl) rfl) ?_
    clear fr a; intro a fr
    refine fx_val (v := .int .i64 (fndI rl l.num)) fr rfl rfl (by first | decide | simp) (x_extract rfl (fr.ev rfl) rfl) ?_
    clear fr a; intro a fr
    refine fx_val (v := .pointer (some ⟨S, si n l.num, none⟩)) fr rfl rfl (by first | decide | simp) (x_assign rfl (fr.ev rfl)) ?_
    clear fr a; intro a fr
    refine fx_val (v := .int .i64 (fndI rl l.num)) fr rfl rfl (by first | decide | simp) (x_assign rfl (fr.ev rfl)) ?_
    clear fr a; intro a fr
    refine wpList_nil ?_
    refine fx_next ?_
    refine wp_seq ?_
    refine wp_block ?_
    refine wp_seq ?_
    rcases fnd_spec rl l.num with ⟨hf, hno⟩ | ⟨i, hf, hi, hin, hall⟩
    · skip
      rw [hf] at fr
      have hg : getN L l.num = none := by rw [← ofs_get (n := n), ← hrl]; exact fnd_none ⟨hf, hno⟩
      refine wp_region_lit ?_  -- region 7
      refine fx_val (v := .int .i64 (-1)) fr rfl rfl (by first | decide | simp) (x_move rfl (fr.ev rfl)) ?_
      clear fr a; intro a fr
      refine fx_val (v := .bool false) fr rfl rfl (by first | decide | simp) (x_geq rfl (fr.ev rfl) rfl rfl) ?_
      clear fr a; intro a fr
      refine fx_val (v := .bool false) fr rfl rfl (by first | decide | simp) (x_assign rfl (fr.ev rfl)) ?_
      clear fr a; intro a fr
      refine wpList_nil ?_
      refine fx_next ?_
      refine fx_cond_f fr rfl ?_
      refine wp_seq ?_
      refine fx_held (n := 10) (fun w => Blk w b 74 #[.slice (some ⟨S, 0, none⟩) n n, .int .i64 ways] ∧ Blk w S 26 (rowsArr rs) ∧ RowsAt w FpR rs ∧ Blk w b1 39 (lnE.arr l) ∧ True) (by kernel_rfl) rfl ?_  -- region 9
      intro w11 hN12
      replace hB := hB.new hN12
      replace hS := hS.new hN12
      replace hR := hR.new hN12
      replace B4 := B4.new hN12
      replace hF := hF.trNew hN12
      refine fx_take (i := 0) (v := .pointer (some ⟨S, si n l.num, none⟩)) fr rfl (by kernel_rfl) rfl rfl (by first | decide | simp) (fun _ _ _ h => h) (fun _ ⟨hB, hS, hR, B4, _⟩ => x_move rfl (fr.ev rfl)) ⟨hB, hS, hR, B4, trivial⟩ ?_
      clear fr a; intro a fr
      refine fx_take (i := 1) (v := .pointer (some ⟨S, si n l.num, none⟩)) fr rfl (by kernel_rfl) rfl rfl (by first | decide | simp) (fun _ _ _ h => h) (fun _ ⟨hB, hS, hR, B4, _⟩ => x_nilCheck rfl (fr.ev rfl)) ⟨hB, hS, hR, B4, trivial⟩ ?_
      clear fr a; intro a fr
      refine fx_take (i := 2) (v := .slice rA rl.length rc) fr rfl (by kernel_rfl) rfl rfl (by first | decide | simp) (fun _ _ _ h => h) (fun _ ⟨hB, hS, hR, B4, _⟩ => x_load1 pl26 rfl (fr.ev rfl) (hS.cell (si n l.num) (rows_cellAt (by omega) hr))) ⟨hB, hS, hR, B4, trivial⟩ ?_
      clear fr a; intro a fr
      refine fx_take (i := 3) (v := .int .i64 ((rl.length : Nat) : Int)) fr rfl (by kernel_rfl) rfl rfl (by first | decide | simp) (fun _ _ _ h => h) (fun _ ⟨hB, hS, hR, B4, _⟩ => x_len Try.underlying26 rfl (fr.ev rfl)) ⟨hB, hS, hR, B4, trivial⟩ ?_
      clear fr a; intro a fr
      refine fx_take (i := 4) (v := .pointer (some ⟨b, 0, none⟩)) fr rfl (by kernel_rfl) rfl rfl (by first | decide | simp) (fun _ _ _ h => h) (fun _ ⟨hB, hS, hR, B4, _⟩ => x_move rfl (fr.ev rfl)) ⟨hB, hS, hR, B4, trivial⟩ ?_
      clear fr a; intro a fr
      refine fx_take (i := 5) (v := .pointer (some ⟨b, 0, none⟩)) fr rfl (by kernel_rfl) rfl rfl (by first | decide | simp) (fun _ _ _ h => h) (fun _ ⟨hB, hS, hR, B4, _⟩ => x_nilCheck rfl (fr.ev rfl)) ⟨hB, hS, hR, B4, trivial⟩ ?_
      clear fr a; intro a fr
      refine fx_take (i := 6) (v := .pointer (some ⟨b, 1, none⟩)) fr rfl (by kernel_rfl) rfl rfl (by first | decide | simp) (fun _ _ _ h => h) (fun _ ⟨hB, hS, hR, B4, _⟩ => x_fieldAddr fo74_1 rfl (fr.ev rfl) rfl) ⟨hB, hS, hR, B4, trivial⟩ ?_
      clear fr a; intro a fr
      refine fx_take (i := 7) (v := .int .i64 ways) fr rfl (by kernel_rfl) rfl rfl (by first | decide | simp) (fun _ _ _ h => h) (fun _ ⟨hB, hS, hR, B4, _⟩ => x_load1 pl3 rfl (fr.ev rfl) (hB.cell 1 rfl)) ⟨hB, hS, hR, B4, trivial⟩ ?_
      clear fr a; intro a fr
      refine fx_take (i := 8) (v := .bool (decide (ways ≤ ((rl.length : Nat) : Int)))) fr rfl (by kernel_rfl) rfl rfl (by first | decide | simp) (fun _ _ _ h => h) (fun _ ⟨hB, hS, hR, B4, _⟩ => x_geq rfl (fr.ev rfl) (fr.ev rfl) rfl) ⟨hB, hS, hR, B4, trivial⟩ ?_
      clear fr a; intro a fr
      refine fx_take (i := 9) (v := .bool (decide (ways ≤ ((rl.length : Nat) : Int)))) fr rfl (by kernel_rfl) rfl rfl (by first | decide | simp) (fun _ _ _ h => h) (fun _ ⟨hB, hS, hR, B4, _⟩ => x_assign rfl (fr.ev rfl)) ⟨hB, hS, hR, B4, trivial⟩ ?_
      clear fr a; intro a fr
      refine fx_hdone (by kernel_rfl) ?_
      refine fx_next ?_
      refine fx_cond fr rfl (fun hc13 => ?_) (fun hc13 => ?_)
      · skip
        have hc13 := of_decide_eq_true hc13
        refine wp_seq ?_
        refine wp_region_lit ?_  -- region 10
        refine fx_val (v := .int .i64 200) fr rfl rfl (by first | decide | simp) (x_assign rfl rfl) ?_
        clear fr a; intro a fr
        refine wpList_nil ?_
        refine fx_next ?_
        refine wp_ret ?_
        refine fx_rb ?_
        refine fx_rt ?_
        refine fx_ret fr [.tmp 4] [.int .i64 200] rfl ⟨rfl, trivial⟩ rfl ?_
        have ho : okS l = true := by unfold okS; simp; omega
        have ho' : ¬ okS l = false := by rw [ho]; decide
        have e1 : putE n ways L l = 200 := by unfold putE; rw [if_neg ho', if_pos ⟨hg, by rw [← hrl]; omega⟩]
        have e2 : putL n ways L l = L := by unfold putL; rw [e1]; rfl
        rw [e1, e2]
        exact ⟨_, rfl, rfl, Fp, ⟨S, FpR, rs, hB, hS, hR, hP⟩, hF, fun g hg => .inl hg⟩
      · skip
        have hc13 := of_decide_eq_false hc13
        obtain ⟨FpT, hT, hO, hAT, hFT⟩ := hR.splitAt (by omega) hr
        have ap2_rA_FpT : ∀ k, inA rA k → FpT k → False := hAT
        have ap_FpT_b : ¬ FpT b := fun h => ap_FpR_b ((hFT _).2 (.inl h))
        have ap_rA_b : Apart rA b := fun h => ap_FpR_b ((hFT _).2 (.inr h))
        have ap_FpT_S : ¬ FpT S := fun h => ap_FpR_S ((hFT _).2 (.inl h))
        have ap_rA_S : Apart rA S := fun h => ap_FpR_S ((hFT _).2 (.inr h))
        have gA_FpT : ∀ g, FpT g → Fp g ∨ w.heap.size ≤ g := fun g hg => gA_FpR g ((hFT g).2 (.inl hg))
        have gA_rA : ∀ g, inA rA g → Fp g ∨ w.heap.size ≤ g := fun g hg => gA_FpR g ((hFT g).2 (.inr hg))
        have ap_FpT_b1 : ¬ FpT b1 := fun h => ap_FpR_b1 ((hFT _).2 (.inl h))
        have ap_rA_b1 : Apart rA b1 := fun h => ap_FpR_b1 ((hFT _).2 (.inr h))
        refine fx_heldT (n := 7) (k := 7) (fun w => Blk w b 74 #[.slice (some ⟨S, 0, none⟩) n n, .int .i64 ways] ∧ Blk w S 26 (rowsArr rs) ∧ Blk w b1 39 (lnE.arr l) ∧ RowsBut w FpT rs (si n l.num) ∧ True) (by kernel_rfl) (by kernel_rfl) rfl ?_  -- region 6
        intro w14 hN15
        replace hB := hB.new hN15
        replace hS := hS.new hN15
        replace B4 := B4.new hN15
        replace hT := hT.new hN15
        replace hO := hO.new hN15
        replace hF := hF.trNew hN15
        refine fx_take (i := 0) (v := .pointer (some ⟨S, si n l.num, none⟩)) fr rfl (by kernel_rfl) rfl rfl (by first | decide | simp) (fun _ _ _ h => h) (fun _ ⟨hB, hS, B4, hT, _⟩ => x_move rfl (fr.ev rfl)) ⟨hB, hS, B4, hT, trivial⟩ ?_
        clear fr a; intro a fr
        refine fx_take (i := 1) (v := .pointer (some ⟨S, si n l.num, none⟩)) fr rfl (by kernel_rfl) rfl rfl (by first | decide | simp) (fun _ _ _ h => h) (fun _ ⟨hB, hS, B4, hT, _⟩ => x_move rfl (fr.ev rfl)) ⟨hB, hS, B4, hT, trivial⟩ ?_
        clear fr a; intro a fr
        refine fx_take (i := 2) (v := .pointer (some ⟨S, si n l.num, none⟩)) fr rfl (by kernel_rfl) rfl rfl (by first | decide | simp) (fun _ _ _ h => h) (fun _ ⟨hB, hS, B4, hT, _⟩ => x_nilCheck rfl (fr.ev rfl)) ⟨hB, hS, B4, hT, trivial⟩ ?_
        clear fr a; intro a fr
        refine fx_take (i := 4) (v := .agg (lnE.arr l)) fr rfl (by kernel_rfl) rfl rfl (by first | decide | simp) (fun _ _ _ h => h) (fun _ ⟨hB, hS, B4, hT, _⟩ => x_loadE (E := lnE) ag39 rfl rfl (fr.ev rfl) (B4.rangeE lnE)) ⟨hB, hS, B4, hT, trivial⟩ ?_
        clear fr a; intro a fr
        refine fx_two (i := 3) (j := 5) (by kernel_rfl) (fx_op rfl ?_) (fx_op rfl ?_)
        · skip
          refine fx_val (v := .slice rA rl.length rc) fr rfl rfl (by first | decide | simp) (x_load1 pl26 rfl (fr.ev rfl) (hS.cell (si n l.num) (rows_cellAt (by omega) hr))) ?_
          clear fr a; intro a fr
          refine wpList_nil ?_
          refine ⟨⟨hB, hS, B4, hT, trivial⟩, ?_⟩
          refine fx_one (i := 5) (by kernel_rfl) (fx_op rfl ?_)
          refine fx_build1 (E := lnE) (p := l) elLn (by decide) fr rfl rfl (by decide) rfl (fr.ev rfl) ?_
          clear fr a
          intro A16 w17 hN18 O19 hA20 a fr
          have ap_A16_b : Apart A16 b := new_apart hA20 hB.lt
          have ap_A16_S : Apart A16 S := new_apart hA20 hS.lt
          have ap_A16_b1 : Apart A16 b1 := new_apart hA20 B4.lt
          have ap2_FpT_A16 : ∀ k, FpT k → inA A16 k → False := symP (new_apart2P hA20 fun _ hg => hT.lt hg)
          have ap2_rA_A16 : Apart2 rA A16 := (new_apart2 hA20 fun _ hg => hO.lt hg).symm
          have gA_A16 := gA_new hF hA20
          replace hB := hB.new hN18
          replace hS := hS.new hN18
          replace B4 := B4.new hN18
          replace hT := hT.new hN18
          replace hO := hO.new hN18
          replace hF := hF.trNew hN18
          refine wpList_nil ?_
          refine ⟨⟨hB, hS, B4, hT, trivial⟩, ?_⟩
          refine fx_one (i := 6) (by kernel_rfl) (fx_op rfl ?_)
          refine fx_append (E := lnE) (l := rl) (l' := [l]) elLn fr rfl rfl (by decide) rfl (fr.ev rfl) (fr.ev rfl) (by first | rfl | (simp; done) | (simp; omega)) (by first | rfl | (simp; done) | (simp; omega)) hO O19.view (by first | omega | (simp; omega)) (by unfold maxLen; first | omega | (simp; omega)) ?_
          clear fr a
          intro A21 cap22 w23 O24 hO25 mv26 a fr
          have ap_A21_b : Apart A21 b := moved_apart mv26 ap_rA_b hB.lt
          have ap_A21_S : Apart A21 S := moved_apart mv26 ap_rA_S hS.lt
          have ap_A21_b1 : Apart A21 b1 := moved_apart mv26 ap_rA_b1 B4.lt
          have ap2_A21_FpT : ∀ k, inA A21 k → FpT k → False := moved_apart2P mv26 ap2_rA_FpT fun _ hg => hT.lt hg
          have ap2_A21_A16 : Apart2 A21 A16 := moved_apart2 mv26 ap2_rA_A16 fun _ hg => O19.lt hg
          have gA_A21 := gA_moved hF mv26 gA_rA
          replace hB := hB.only hO25 ap_rA_b
          replace hS := hS.only hO25 ap_rA_S
          replace B4 := B4.only hO25 ap_rA_b1
          replace hT := hT.only hO25 (fun g h1 h2 => (symP ap2_rA_FpT) g h1 h2)
          replace O19 := O19.only hO25 (fun g h1 h2 => ap2_rA_A16.symm g h1 h2)
          replace hF := hF.locA hO25 gA_rA
          clear hO
          refine wpList_nil ?_
          refine ⟨⟨hB, hS, B4, hT, trivial⟩, ?_⟩
          refine fx_hdone (by kernel_rfl) ?_
          refine fx_tail ?_
          refine fx_val (v := .pointer (some ⟨S, si n l.num, none⟩)) fr rfl rfl (by first | decide | simp) (x_nilCheck rfl (fr.ev rfl)) ?_
          clear fr a; intro a fr
          refine fx_store1 sz26 rfl rfl rfl (fr.ev rfl) (fr.ev rfl) rfl hS (by rw [rows_size]; omega) (cs' := rowsArr (rs.set (si n l.num) ⟨A21, cap22, rl ++ ([l])⟩)) (rows_set rs (r := ⟨A21, cap22, rl ++ ([l])⟩)) fun w27 hO28 hBq => ?_
          replace hB := hB.only hO28 (by first | exact ne_b_S | exact ne_S_b.symm | (show ¬ b = S; omega))
          replace B4 := B4.only hO28 (by first | exact ne_b1_S | exact ne_S_b1.symm | (show ¬ b1 = S; omega))
          replace hT := hT.only hO28 (ne1P ap_FpT_S)
          replace O19 := O19.only hO28 (Apart.ne1 ap_A16_S)
          replace O24 := O24.only hO28 (Apart.ne1 ap_A21_S)
          replace hF := hF.loc hO28 (.inl hFS)
          replace hS := hBq
          clear hBq
          refine wpList_nil ?_
          refine fx_blk ?_
          refine fx_next ?_
          refine wp_seq ?_
          refine wp_region_lit ?_  -- region 11
          refine fx_val (v := .int .i64 0) fr rfl rfl (by first | decide | simp) (x_assign rfl rfl) ?_
          clear fr a; intro a fr
          refine wpList_nil ?_
          refine fx_next ?_
          refine wp_ret ?_
          refine fx_ret fr [.tmp 4] [.int .i64 0] rfl ⟨rfl, trivial⟩ rfl ?_
          have ho : okS l = true := by unfold okS; simp; omega
          have ho' : ¬ okS l = false := by rw [ho]; decide
          have e1 : putE n ways L l = 0 := by unfold putE; rw [if_neg ho', if_neg (fun h => by rw [← hrl] at h; omega)]
          have e2 : putL n ways L l = L ++ [l] := by unfold putL; rw [if_pos e1, if_pos hg]
          have hu : Uniq (putL n ways L l) := hP.uniq.putL
          have hf9 : Fits n ways (putL n ways L l) := hP.fits.putL l
          rw [e2] at hu hf9
          rw [e1, e2]
          have hl9 : rl ++ [l] = ofs n (L ++ [l]) (si n l.num) := by rw [ofs_snoc_same, ← hrl]
          exact ⟨_, rfl, rfl, _, lines_put (r := ⟨A21, cap22, rl ++ [l]⟩) hB hS hT O24 (by omega) ap2_A21_FpT ne_b_S ap_FpT_b ap_FpT_S ap_A21_b ap_A21_S hlen (fun j hj hne => by rw [hP.row j hj, ofs_snoc_other _ _ hne]) hl9 hP.bd hu hf9, hF, (fun g hg => by rcases hg with rfl | rfl | hg | hg; exact .inl hFb; exact .inl hFS; exact gA_FpT g hg; exact gA_A21 g hg)⟩
        · skip
          refine fx_build1 (E := lnE) (p := l) elLn (by decide) fr rfl rfl (by decide) rfl (fr.ev rfl) ?_
          clear fr a
          intro A29 w30 hN31 O32 hA33 a fr
          have ap_A29_b : Apart A29 b := new_apart hA33 hB.lt
          have ap_A29_S : Apart A29 S := new_apart hA33 hS.lt
          have ap_A29_b1 : Apart A29 b1 := new_apart hA33 B4.lt
          have ap2_FpT_A29 : ∀ k, FpT k → inA A29 k → False := symP (new_apart2P hA33 fun _ hg => hT.lt hg)
          have ap2_rA_A29 : Apart2 rA A29 := (new_apart2 hA33 fun _ hg => hO.lt hg).symm
          have gA_A29 := gA_new hF hA33
          replace hB := hB.new hN31
          replace hS := hS.new hN31
          replace B4 := B4.new hN31
          replace hT := hT.new hN31
          replace hO := hO.new hN31
          replace hF := hF.trNew hN31
          refine wpList_nil ?_
          refine ⟨⟨hB, hS, B4, hT, trivial⟩, ?_⟩
          refine fx_one (i := 3) (by kernel_rfl) (fx_op rfl ?_)
          refine fx_val (v := .slice rA rl.length rc) fr rfl rfl (by first | decide | simp) (x_load1 pl26 rfl (fr.ev rfl) (hS.cell (si n l.num) (rows_cellAt (by omega) hr))) ?_
          clear fr a; intro a fr
          refine wpList_nil ?_
          refine ⟨⟨hB, hS, B4, hT, trivial⟩, ?_⟩
          refine fx_one (i := 6) (by kernel_rfl) (fx_op rfl ?_)
          refine fx_append (E := lnE) (l := rl) (l' := [l]) elLn fr rfl rfl (by decide) rfl (fr.ev rfl) (fr.ev rfl) (by first | rfl | (simp; done) | (simp; omega)) (by first | rfl | (simp; done) | (simp; omega)) hO O32.view (by first | omega | (simp; omega)) (by unfold maxLen; first | omega | (simp; omega)) ?_
          clear fr a
          intro A34 cap35 w36 O37 hO38 mv39 a fr
          have ap_A34_b : Apart A34 b := moved_apart mv39 ap_rA_b hB.lt
          have ap_A34_S : Apart A34 S := moved_apart mv39 ap_rA_S hS.lt
          have ap_A34_b1 : Apart A34 b1 := moved_apart mv39 ap_rA_b1 B4.lt
          have ap2_A34_FpT : ∀ k, inA A34 k → FpT k → False := moved_apart2P mv39 ap2_rA_FpT fun _ hg => hT.lt hg
          have ap2_A34_A29 : Apart2 A34 A29 := moved_apart2 mv39 ap2_rA_A29 fun _ hg => O32.lt hg
          have gA_A34 := gA_moved hF mv39 gA_rA
          replace hB := hB.only hO38 ap_rA_b
          replace hS := hS.only hO38 ap_rA_S
          replace B4 := B4.only hO38 ap_rA_b1
          replace hT := hT.only hO38 (fun g h1 h2 => (symP ap2_rA_FpT) g h1 h2)
          replace O32 := O32.only hO38 (fun g h1 h2 => ap2_rA_A29.symm g h1 h2)
          replace hF := hF.locA hO38 gA_rA
          clear hO
          refine wpList_nil ?_
          refine ⟨⟨hB, hS, B4, hT, trivial⟩, ?_⟩
          refine fx_hdone (by kernel_rfl) ?_
          refine fx_tail ?_
          refine fx_val (v := .pointer (some ⟨S, si n l.num, none⟩)) fr rfl rfl (by first | decide | simp) (x_nilCheck rfl (fr.ev rfl)) ?_
          clear fr a; intro a fr
          refine fx_store1 sz26 rfl rfl rfl (fr.ev rfl) (fr.ev rfl) rfl hS (by rw [rows_size]; omega) (cs' := rowsArr (rs.set (si n l.num) ⟨A34, cap35, rl ++ ([l])⟩)) (rows_set rs (r := ⟨A34, cap35, rl ++ ([l])⟩)) fun w40 hO41 hBq => ?_
          replace hB := hB.only hO41 (by first | exact ne_b_S | exact ne_S_b.symm | (show ¬ b = S; omega))
          replace B4 := B4.only hO41 (by first | exact ne_b1_S | exact ne_S_b1.symm | (show ¬ b1 = S; omega))
          replace hT := hT.only hO41 (ne1P ap_FpT_S)
          replace O32 := O32.only hO41 (Apart.ne1 ap_A29_S)
          replace O37 := O37.only hO41 (Apart.ne1 ap_A34_S)
          replace hF := hF.loc hO41 (.inl hFS)
          replace hS := hBq
          clear hBq
          refine wpList_nil ?_
          refine fx_blk ?_
          refine fx_next ?_
          refine wp_seq ?_
          refine wp_region_lit ?_  -- region 11
          refine fx_val (v := .int .i64 0) fr rfl rfl (by first | decide | simp) (x_assign rfl rfl) ?_
          clear fr a; intro a fr
          refine wpList_nil ?_
          refine fx_next ?_
          refine wp_ret ?_
          refine fx_ret fr [.tmp 4] [.int .i64 0] rfl ⟨rfl, trivial⟩ rfl ?_
          have ho : okS l = true := by unfold okS; simp; omega
          have ho' : ¬ okS l = false := by rw [ho]; decide
          have e1 : putE n ways L l = 0 := by unfold putE; rw [if_neg ho', if_neg (fun h => by rw [← hrl] at h; omega)]
          have e2 : putL n ways L l = L ++ [l] := by unfold putL; rw [if_pos e1, if_pos hg]
          have hu : Uniq (putL n ways L l) := hP.uniq.putL
          have hf9 : Fits n ways (putL n ways L l) := hP.fits.putL l
          rw [e2] at hu hf9
          rw [e1, e2]
          have hl9 : rl ++ [l] = ofs n (L ++ [l]) (si n l.num) := by rw [ofs_snoc_same, ← hrl]
          exact ⟨_, rfl, rfl, _, lines_put (r := ⟨A34, cap35, rl ++ [l]⟩) hB hS hT O37 (by omega) ap2_A34_FpT ne_b_S ap_FpT_b ap_FpT_S ap_A34_b ap_A34_S hlen (fun j hj hne => by rw [hP.row j hj, ofs_snoc_other _ _ hne]) hl9 hP.bd hu hf9, hF, (fun g hg => by rcases hg with rfl | rfl | hg | hg; exact .inl hFb; exact .inl hFS; exact gA_FpT g hg; exact gA_A34 g hg)⟩
    · skip
      rw [hf] at fr
      have hi0 : ¬ ((i : Nat) : Int) < 0 := by omega
      have hi1 : 0 ≤ ((i : Nat) : Int) := by omega
      have hg : getN L l.num = some (rl.getD i ln0) := by rw [← ofs_get (n := n), ← hrl]; exact get_at hi hin hall
      refine wp_region_lit ?_  -- region 7
      refine fx_val (v := .int .i64 ((i : Nat) : Int)) fr rfl rfl (by first | decide | simp) (x_move rfl (fr.ev rfl)) ?_
      clear fr a; intro a fr
      refine fx_val (v := .bool true) fr rfl rfl (by first | decide | simp) (x_geq rfl (fr.ev rfl) rfl (decide_eq_true hi1)) ?_
      clear fr a; intro a fr
      refine fx_val (v := .bool true) fr rfl rfl (by first | decide | simp) (x_assign rfl (fr.ev rfl)) ?_
      clear fr a; intro a fr
      refine wpList_nil ?_
      refine fx_next ?_
      refine fx_cond_t fr rfl ?_
      obtain ⟨FpT, hT, hO, hAT, hFT⟩ := hR.splitAt (by omega) hr
      have ap2_rA_FpT : ∀ k, inA rA k → FpT k → False := hAT
      have ap_FpT_b : ¬ FpT b := fun h => ap_FpR_b ((hFT _).2 (.inl h))
      have ap_rA_b : Apart rA b := fun h => ap_FpR_b ((hFT _).2 (.inr h))
      have ap_FpT_S : ¬ FpT S := fun h => ap_FpR_S ((hFT _).2 (.inl h))
      have ap_rA_S : Apart rA S := fun h => ap_FpR_S ((hFT _).2 (.inr h))
      have gA_FpT : ∀ g, FpT g → Fp g ∨ w.heap.size ≤ g := fun g hg => gA_FpR g ((hFT g).2 (.inl hg))
      have gA_rA : ∀ g, inA rA g → Fp g ∨ w.heap.size ≤ g := fun g hg => gA_FpR g ((hFT g).2 (.inr hg))
      have ap_FpT_b1 : ¬ FpT b1 := fun h => ap_FpR_b1 ((hFT _).2 (.inl h))
      have ap_rA_b1 : Apart rA b1 := fun h => ap_FpR_b1 ((hFT _).2 (.inr h))
      refine fx_heldT (n := 5) (k := 5) (fun w => Blk w b 74 #[.slice (some ⟨S, 0, none⟩) n n, .int .i64 ways] ∧ Blk w S 26 (rowsArr rs) ∧ Blk w b1 39 (lnE.arr l) ∧ RowsBut w FpT rs (si n l.num) ∧ Own lnE w rA rc rl ∧ True) (by kernel_rfl) (by kernel_rfl) rfl ?_  -- region 8
      intro w42 hN43
      replace hB := hB.new hN43
      replace hS := hS.new hN43
      replace B4 := B4.new hN43
      replace hT := hT.new hN43
      replace hO := hO.new hN43
      replace hF := hF.trNew hN43
      refine fx_take (i := 0) (v := .pointer (some ⟨S, si n l.num, none⟩)) fr rfl (by kernel_rfl) rfl rfl (by first | decide | simp) (fun _ _ _ h => h) (fun _ ⟨hB, hS, B4, hT, hO, _⟩ => x_move rfl (fr.ev rfl)) ⟨hB, hS, B4, hT, hO, trivial⟩ ?_
      clear fr a; intro a fr
      refine fx_take (i := 1) (v := .pointer (some ⟨S, si n l.num, none⟩)) fr rfl (by kernel_rfl) rfl rfl (by first | decide | simp) (fun _ _ _ h => h) (fun _ ⟨hB, hS, B4, hT, hO, _⟩ => x_nilCheck rfl (fr.ev rfl)) ⟨hB, hS, B4, hT, hO, trivial⟩ ?_
      clear fr a; intro a fr
      refine fx_take (i := 2) (v := .slice rA rl.length rc) fr rfl (by kernel_rfl) rfl rfl (by first | decide | simp) (fun _ _ _ h => h) (fun _ ⟨hB, hS, B4, hT, hO, _⟩ => x_load1 pl26 rfl (fr.ev rfl) (hS.cell (si n l.num) (rows_cellAt (by omega) hr))) ⟨hB, hS, B4, hT, hO, trivial⟩ ?_
      clear fr a; intro a fr
      refine fx_take (i := 3) (v := .int .i64 ((i : Nat) : Int)) fr rfl (by kernel_rfl) rfl rfl (by first | decide | simp) (fun _ _ _ h => h) (fun _ ⟨hB, hS, B4, hT, hO, _⟩ => x_move rfl (fr.ev rfl)) ⟨hB, hS, B4, hT, hO, trivial⟩ ?_
      clear fr a; intro a fr
      refine fx_take (i := 4) (v := .agg (lnE.arr l)) fr rfl (by kernel_rfl) rfl rfl (by first | decide | simp) (fun _ _ _ h => h) (fun _ ⟨hB, hS, B4, hT, hO, _⟩ => x_loadE (E := lnE) ag39 rfl rfl (fr.ev rfl) (B4.rangeE lnE)) ⟨hB, hS, B4, hT, hO, trivial⟩ ?_
      clear fr a; intro a fr
      refine fx_hdone (by kernel_rfl) ?_
      refine fx_tail ?_
      obtain ⟨g44, o45, hA46⟩ := (hO.view).some_ (by omega)
      refine fx_val (v := .pointer (some ⟨g44, o45 + i * 18, none⟩)) fr rfl rfl (by first | decide | simp) (x_indexV Try.underlying26 sz39 rfl (fr.ev rfl) hA46 (fr.ev rfl) (by omega) rfl) ?_
      clear fr a; intro a fr
      refine fx_storeRec (E := lnE) (x' := l) sz39 rfl rfl rfl hA46 hO (by first | omega | (simp only [List.length_set]; omega)) (fr.ev rfl) rfl (fr.ev rfl) fun w47 hO48 hBq => ?_
      replace hB := hB.only hO48 ap_rA_b
      replace hS := hS.only hO48 ap_rA_S
      replace B4 := B4.only hO48 ap_rA_b1
      replace hT := hT.only hO48 (fun g h1 h2 => (symP ap2_rA_FpT) g h1 h2)
      replace hF := hF.locA hO48 gA_rA
      replace hO := hBq
      clear hBq
      refine wpList_nil ?_
      refine fx_blk ?_
      refine fx_next ?_
      refine wp_seq ?_
      refine wp_region_lit ?_  -- region 11
      refine fx_val (v := .int .i64 0) fr rfl rfl (by first | decide | simp) (x_assign rfl rfl) ?_
      clear fr a; intro a fr
      refine wpList_nil ?_
      refine fx_next ?_
      refine wp_ret ?_
      refine fx_ret fr [.tmp 4] [.int .i64 0] rfl ⟨rfl, trivial⟩ rfl ?_
      have ho : okS l = true := by unfold okS; simp; omega
      have ho' : ¬ okS l = false := by rw [ho]; decide
      have e1 : putE n ways L l = 0 := by unfold putE; rw [if_neg ho', if_neg (fun h => by rw [hg] at h; cases h.1)]
      have e2 : putL n ways L l = repl l L := by unfold putL; rw [if_pos e1, if_neg (by rw [hg]; intro h; cases h)]
      have hu : Uniq (putL n ways L l) := hP.uniq.putL
      have hf9 : Fits n ways (putL n ways L l) := hP.fits.putL l
      rw [e2] at hu hf9
      rw [e1, e2]
      have hl9 : rl.set i l = ofs n (repl l L) (si n l.num) := by rw [ofs_repl_same, ← hrl, set_at hi hin hall]
      exact ⟨_, rfl, rfl, _, lines_put (r := ⟨rA, rc, rl.set i l⟩) hB (by rw [rows_same (by omega) hr List.length_set]; exact hS) hT hO (by omega) hAT ne_b_S ap_FpT_b ap_FpT_S ap_rA_b ap_rA_S hlen (fun j hj hne => by rw [hP.row j hj, ofs_repl_other _ _ hne]) hl9 hP.bd hu hf9, hF, (fun g hg => by rcases hg with rfl | rfl | hg | hg; exact .inl hFb; exact .inl hFS; exact gA_FpT g hg; exact gA_rA g hg)⟩
set_option maxRecDepth 100000 in
set_option maxHeartbeats 4000000 in
theorem put_nil (l : Ln) (w : World) : Calls Try.prog 21 #[.pointer none, .agg (lnE.arr l)] w (Ret fun v w' => v = .int .i64 1 ∧ New w w') := by
  have hF := Only.refl (fun _ => False) w
  refine fx_enter Try.func21 rfl (N := (51, [])) (T := [(0, .pointer none), (1, .agg (lnE.arr l))]) rfl (show 2 ≤ 51 by decide) ⟨rfl, rfl, trivial⟩ fun a fr => ?_
  refine wp_seq ?_
  refine wp_region_lit ?_  -- region 0
  refine fx_new fr rfl rfl (by first | decide | simp) (x_box (cs := lnE.arr l) rfl (fr.ev rfl) rfl) ?_
  clear fr a
  intro b1 w2 hN3 B4 hb5 a fr
  have g_b1 := Nat.le_trans hF.size hb5
  replace hF := hF.trNew hN3
  refine fx_val (v := .int .i64 0) fr rfl rfl (by first | decide | simp) (x_assign rfl rfl) ?_
  clear fr a; intro a fr
  refine wpList_nil ?_
  refine fx_next ?_
  refine wp_seq ?_
  refine wp_seq ?_
  refine wp_region_lit ?_  -- region 1
  refine fx_val (v := .pointer none) fr rfl rfl (by first | decide | simp) (x_move rfl (fr.ev rfl)) ?_
  clear fr a; intro a fr
  refine fx_call fr rfl rfl (by first | decide | simp) (x_call (vs := [.pointer none]) rfl rfl ⟨(fr.ev rfl), trivial⟩ Try.func31 nm31 rfl) (none_nil _) ?_
  clear fr a
  rintro v w9 ⟨rfl, hw9⟩ a fr
  obtain rfl := hw9.symm
  refine wpList_nil ?_
  refine fx_next ?_
  refine fx_cond_t fr rfl ?_
  refine wp_seq ?_
  refine wp_region_lit ?_  -- region 2
  refine fx_val (v := .int .i64 1) fr rfl rfl (by first | decide | simp) (x_assign rfl rfl) ?_
  clear fr a; intro a fr
  refine wpList_nil ?_
  refine fx_next ?_
  refine wp_ret ?_
  refine fx_rt ?_
  refine fx_ret fr [.tmp 4] [.int .i64 1] rfl ⟨rfl, trivial⟩ rfl ?_
  exact ⟨_, rfl, rfl, hF⟩
end Go.Proofs.Ytdjgfkjcpalihaa
