/-
  Part 3 of what the claim stands on: walks through the code, plain laws.
-/
import Derived.Test.YtflnlmibkbojcaaZCopies2
namespace Go.Proofs.Ytflnlmibkbojcaa
open Go.RowKit
set_option maxRecDepth 100000 in
set_option maxHeartbeats 4000000 in
theorem caught_idle (be : Nat) (w : World) : CallsD Try.prog 49 #[.pointer (some ⟨be, 0, none⟩)] (.returning) w (fun e u' w' => e = .returned (.tuple #[]) ∧ u' = .returning ∧ w' = w) := by
  refine fx_enterS (args := #[.pointer (some ⟨be, 0, none⟩)]) Try.func49 rfl (N := (15, [])) (T := [(0, .pointer (some ⟨be, 0, none⟩))]) rfl (show 1 ≤ 15 by decide) ⟨rfl, trivial⟩ rfl rfl (by decide) (fun _ _ => rfl) (u1 := .returning) (rv := .nilIface) (.inl ⟨rfl, rfl, rfl⟩) fun c₀ cs a fr => ?_
  refine wp_block ?_
  refine wp_seq ?_
  refine wp_region_lit ?_  -- region 3
  refine fx_val (v := .bool true) fr rfl rfl (by first | decide | simp) (x_ieqn Try.underlying20 rfl (fr.ev rfl) rfl) ?_
  clear fr a; intro a fr
  refine wpList_nil ?_
  refine fx_next ?_
  refine fx_cond_t fr rfl ?_
  refine wp_region_lit ?_  -- region 4
  refine fx_val (v := .nilIface) fr rfl rfl (by first | decide | simp) (x_assign rfl (fr.ev rfl)) ?_
  clear fr a; intro a fr
  refine wpList_nil ?_
  refine fx_blk ?_
  refine fx_retS fr [] [] rfl trivial rfl ?_
  exact ⟨rfl, rfl, rfl⟩
set_option maxRecDepth 100000 in
set_option maxHeartbeats 4000000 in
theorem caught_stop {w : World} {be : Nat} {x0 : Int} (hE : Blk w be 26 #[.int .i64 x0]) (why : Int) : CallsD Try.prog 49 #[.pointer (some ⟨be, 0, none⟩)] (.panicking [{ v := .iface 161 (.agg #[.int .i64 why]), recovered := false }]) w (fun e u' w' => e = .returned (.tuple #[]) ∧ u' = .panicking [{ v := .iface 161 (.agg #[.int .i64 why]), recovered := true }] ∧ Blk w' be 26 #[.int .i64 why] ∧ Only (fun k => k = be) w w') := by
  have hF := Only.refl (fun k => k = be) w
  refine fx_enterS (args := #[.pointer (some ⟨be, 0, none⟩)]) Try.func49 rfl (N := (15, [])) (T := [(0, .pointer (some ⟨be, 0, none⟩))]) rfl (show 1 ≤ 15 by decide) ⟨rfl, trivial⟩ rfl rfl (by decide) (fun _ _ => rfl) (u1 := .panicking [{ v := .iface 161 (.agg #[.int .i64 why]), recovered := true }]) (rv := .iface 161 (.agg #[.int .i64 why])) (.inr ⟨rfl, rfl⟩) fun c₀ cs a fr => ?_
  refine wp_block ?_
  refine wp_seq ?_
  refine wp_region_lit ?_  -- region 3
  refine fx_val (v := .bool false) fr rfl rfl (by first | decide | simp) (x_ieql Try.underlying20 rfl (fr.ev rfl) rfl) ?_
  clear fr a; intro a fr
  refine wpList_nil ?_
  refine fx_next ?_
  refine fx_cond_f fr rfl ?_
  refine wp_seq ?_
  refine wp_region_lit ?_  -- region 5
  refine fx_val (v := .tuple #[.agg (#[.int .i64 why]), .bool true]) fr rfl rfl (by first | decide | simp) (x_typeAssert rfl (fr.ev rfl) Try.underlying161 rfl) ?_
  clear fr a; intro a fr
  refine fx_val (v := .bool true) fr rfl rfl (by first | decide | simp) (x_extract rfl (fr.ev rfl) rfl) ?_
  clear fr a; intro a fr
  refine fx_val (v := .agg (#[.int .i64 why])) fr rfl rfl (by first | decide | simp) (x_extract rfl (fr.ev rfl) rfl) ?_
  clear fr a; intro a fr
  refine wpList_nil ?_
  refine fx_next ?_
  refine fx_cond_t fr rfl ?_
  refine wp_seq ?_
  refine wp_region_lit ?_  -- region 6
  refine fx_new fr rfl rfl (by first | decide | simp) (x_alloc (z := .agg (#[.int .i64 0])) (cs := #[.int .i64 0]) rfl (by kernel_rfl) rfl) ?_
  clear fr a
  intro b1 w2 hN3 B4 hb5 a fr
  have ne_be_b1 : NE be b1 := NE.mk (Nat.lt_of_lt_of_le hE.lt hb5)
  have g_b1 := Nat.le_trans hF.size hb5
  replace hE := hE.new hN3
  replace hF := hF.trNew hN3
  refine fx_storeS sz161 rfl rfl rfl (fr.ev rfl) (fr.ev rfl) (by simp [Value.oneCell']) B4 rfl rfl fun w6 hO7 hBq => ?_
  replace hE := hE.only hO7 (by first | exact ne_be_b1 | exact ne_b1_be.symm | (show ¬ be = b1; omega))
  replace hF := hF.loc hO7 (.inr g_b1)
  replace B4 := hBq
  clear hBq
  refine wpList_nil ?_
  refine fx_next ?_
  refine wp_region_lit ?_  -- region 7
  refine fx_val (v := .pointer (some ⟨be, 0, none⟩)) fr rfl rfl (by first | decide | simp) (x_move rfl (fr.ev rfl)) ?_
  clear fr a; intro a fr
  refine fx_val (v := .pointer (some ⟨b1, 0, none⟩)) fr rfl rfl (by first | decide | simp) (x_fieldAddr fo161_0 rfl (fr.ev rfl) rfl) ?_
  clear fr a; intro a fr
  refine fx_val (v := .int .i64 why) fr rfl rfl (by first | decide | simp) (x_load1 pl26 rfl (fr.ev rfl) (B4.cell 0 rfl)) ?_
  clear fr a; intro a fr
  refine fx_val (v := .pointer (some ⟨be, 0, none⟩)) fr rfl rfl (by first | decide | simp) (x_nilCheck rfl (fr.ev rfl)) ?_
  clear fr a; intro a fr
  refine fx_store1 sz26 rfl rfl rfl (fr.ev rfl) (fr.ev rfl) rfl hE (show 0 < 1 by decide) (cs' := #[.int .i64 why]) rfl fun w8 hO9 hBq => ?_
  replace B4 := B4.only hO9 (by first | exact ne_b1_be | exact ne_be_b1.symm | (show ¬ b1 = be; omega))
  replace hF := hF.loc hO9 (.inl rfl)
  replace hE := hBq
  clear hBq
  refine wpList_nil ?_
  refine fx_blk ?_
  refine fx_retS fr [] [] rfl trivial rfl ?_
  exact ⟨rfl, rfl, hE, hF⟩
def takeEs (b : Nat) : Array MapEntry := #[⟨.int .i64 8, .func (.func 50) #[.pointer (some ⟨b, 0, none⟩)] #[], 0⟩, ⟨.int .i64 9, .func (.func 50) #[.pointer (some ⟨b, 0, none⟩)] #[], 1⟩, ⟨.int .i64 10, .func (.func 50) #[.pointer (some ⟨b, 0, none⟩)] #[], 2⟩, ⟨.int .i64 4, .func (.func 51) #[.pointer (some ⟨b, 0, none⟩)] #[], 3⟩, ⟨.int .i64 5, .func (.func 51) #[.pointer (some ⟨b, 0, none⟩)] #[], 4⟩, ⟨.int .i64 6, .func (.func 52) #[.pointer (some ⟨b, 0, none⟩)] #[], 5⟩, ⟨.int .i64 7, .func (.func 53) #[.pointer (some ⟨b, 0, none⟩)] #[], 6⟩]
set_option maxRecDepth 100000 in
set_option maxHeartbeats 4000000 in
theorem take_a1 {w : World} {Fp : Nat → Prop} {b : Nat} {id : Int} {n : Nat} {ways : Int} {L : List Ln} {ask : Option (Int × Bool)} {giv : Option Ln} (H : CacheAt w Fp b ⟨id, n, ways, L, ask, giv⟩) (m : Msg) (hx : chk m ≠ 0) : Calls Try.prog 14 #[.pointer (some ⟨b, 0, none⟩), .agg (msgE.arr m)] w (Ret fun v w' => v = .tuple #[.slice none 0 0, .int .i64 2] ∧ CacheAt w' Fp b ⟨id, n, ways, L, ask, giv⟩ ∧ New w w') := by
  have H0 := H
  obtain ⟨lb, FpL, pa, pg, FpA, FpG, hB, hL, hA, hG, hP⟩ := H0
  dsimp only at hB
  clear hL hA hG
  have gA_Fp := fun g (hg : Fp g) => (Or.inl trivial : True ∨ w.heap.size ≤ g)
  have hF := Only.refl (fun _ => False) w
  refine fx_enterD Try.func14 rfl (N := (43, [])) (T := [(0, .pointer (some ⟨b, 0, none⟩)), (1, .agg (msgE.arr m))]) rfl (show 2 ≤ 43 by decide) ⟨rfl, rfl, trivial⟩ fun a fr => ?_
  refine wp_seq ?_
  refine wp_region_lit ?_  -- region 0
  refine fx_new fr rfl rfl (by first | decide | simp) (x_box (cs := msgE.arr m) rfl (fr.ev rfl) rfl) ?_
  clear fr a
  intro b1 w2 hN3 B4 hb5 a fr
  have ne_b_b1 : NE b b1 := NE.mk (Nat.lt_of_lt_of_le hB.lt hb5)
  have ap_Fp_b1 : ¬ Fp b1 := H.apart hb5
  have g_b1 := Nat.le_trans hF.size hb5
  replace hB := hB.new hN3
  replace H := H.new hN3
  replace hF := hF.trNew hN3
  refine fx_val (v := .slice none 0 0) fr rfl rfl (by first | decide | simp) (x_assign rfl rfl) ?_
  clear fr a; intro a fr
  refine fx_new fr rfl rfl (by first | decide | simp) (x_alloc (z := .int .i64 0) (cs := #[.int .i64 0]) rfl (by kernel_rfl) rfl) ?_
  clear fr a
  intro b6 w7 hN8 B9 hb10 a fr
  have ne_b_b6 : NE b b6 := NE.mk (Nat.lt_of_lt_of_le hB.lt hb10)
  have ap_Fp_b6 : ¬ Fp b6 := H.apart hb10
  have ne_b1_b6 : NE b1 b6 := NE.mk (Nat.lt_of_lt_of_le B4.lt hb10)
  have g_b6 := Nat.le_trans hF.size hb10
  replace hB := hB.new hN8
  replace H := H.new hN8
  replace B4 := B4.new hN8
  replace hF := hF.trNew hN8
  refine wpList_nil ?_
  refine fx_next ?_
  refine wp_seq ?_
  refine wp_block ?_
  refine wp_seq ?_
  refine wp_region_lit ?_  -- region 1
  refine fx_val (v := .pointer (some ⟨b, 0, none⟩)) fr rfl rfl (by first | decide | simp) (x_move rfl (fr.ev rfl)) ?_
  clear fr a; intro a fr
  refine fx_call fr rfl rfl (by first | decide | simp) (x_call (vs := [.pointer (some ⟨b, 0, none⟩)]) rfl rfl ⟨(fr.ev rfl), trivial⟩ Try.func43 nm43 rfl) (cnone_c hB) ?_
  clear fr a
  rintro v w9 ⟨rfl, hw9⟩ a fr
  obtain rfl := hw9.symm
  refine fx_val (v := .bool false) fr rfl rfl (by first | decide | simp) (x_assign rfl (fr.ev rfl)) ?_
  clear fr a; intro a fr
  refine wpList_nil ?_
  refine fx_next ?_
  refine fx_cond_f fr rfl ?_
  refine wp_seq ?_
  refine fx_held (n := 13) (fun w => Blk w b 83 #[.int .i64 id, .pointer (some ⟨lb, 0, none⟩), pa, pg] ∧ Blk w b1 35 (msgE.arr m) ∧ Blk w b6 26 (#[.int .i64 0]) ∧ True) (by kernel_rfl) rfl ?_  -- region 3
  intro w13 hN14
  replace hB := hB.new hN14
  replace H := H.new hN14
  replace B4 := B4.new hN14
  replace B9 := B9.new hN14
  replace hF := hF.trNew hN14
  refine fx_take (i := 0) (v := .agg (msgE.arr m)) fr rfl (by kernel_rfl) rfl rfl (by first | decide | simp) (fun _ _ _ h => panic_putD (fn := Try.f14) (d := 10) (by decide) h) (fun _ ⟨hB, B4, B9, _⟩ => x_loadE (E := msgE) ag35 rfl rfl (fr.ev rfl) (B4.rangeE msgE)) ⟨hB, B4, B9, trivial⟩ ?_
  clear fr a; intro a fr
  refine fx_one (i := 1) (by kernel_rfl) (fx_op rfl ?_)
  refine fx_call fr rfl rfl (by first | decide | simp) (x_call (vs := [.agg (msgE.arr m)]) rfl rfl ⟨(fr.ev rfl), trivial⟩ Try.func48 nm48 rfl) (chk_c m _) ?_
  clear fr a
  rintro v w15 ⟨rfl, hN16⟩ a fr
  replace hB := hB.new hN16
  replace H := H.new hN16
  replace B4 := B4.new hN16
  replace B9 := B9.new hN16
  replace hF := hF.trNew hN16
  refine wpList_nil ?_
  refine ⟨⟨hB, B4, B9, trivial⟩, ?_⟩
  refine fx_take (i := 2) (v := .bool true) fr rfl (by kernel_rfl) rfl rfl (by first | decide | simp) (fun _ _ _ h => panic_putD (fn := Try.f14) (d := 12) (by decide) h) (fun _ ⟨hB, B4, B9, _⟩ => x_neq rfl (fr.ev rfl) rfl (decide_eq_true hx)) ⟨hB, B4, B9, trivial⟩ ?_
  clear fr a; intro a fr
  refine fx_take (i := 3) (v := .bool true) fr rfl (by kernel_rfl) rfl rfl (by first | decide | simp) (fun _ _ _ h => panic_putD (fn := Try.f14) (d := 13) (by decide) h) (fun _ ⟨hB, B4, B9, _⟩ => x_move rfl (fr.ev rfl)) ⟨hB, B4, B9, trivial⟩ ?_
  clear fr a; intro a fr
  refine fx_takeskip (i := 4) fr rfl (by kernel_rfl) (fr.unwant rfl rfl rfl (by decide)) rfl (by first | decide | simp) (fun _ _ _ h => panic_putD (fn := Try.f14) (d := 14) (by decide) h) ⟨hB, B4, B9, trivial⟩ ?_
  clear fr a; intro a fr
  refine fx_takeskip (i := 5) fr rfl (by kernel_rfl) (fr.unwant rfl rfl rfl (by decide)) rfl (by first | decide | simp) (fun _ _ _ h => panic_putD (fn := Try.f14) (d := 15) (by decide) h) ⟨hB, B4, B9, trivial⟩ ?_
  clear fr a; intro a fr
  refine fx_takeskip (i := 6) fr rfl (by kernel_rfl) (fr.unwant rfl rfl rfl (by decide)) rfl (by first | decide | simp) (fun _ _ _ h => panic_putD (fn := Try.f14) (d := 16) (by decide) h) ⟨hB, B4, B9, trivial⟩ ?_
  clear fr a; intro a fr
  refine fx_takeskip (i := 7) fr rfl (by kernel_rfl) (fr.unwant rfl rfl rfl (by decide)) rfl (by first | decide | simp) (fun _ _ _ h => panic_putD (fn := Try.f14) (d := 17) (by decide) h) ⟨hB, B4, B9, trivial⟩ ?_
  clear fr a; intro a fr
  refine fx_takeskip (i := 8) fr rfl (by kernel_rfl) (fr.unwant rfl rfl rfl (by decide)) rfl (by first | decide | simp) (fun _ _ _ h => panic_putD (fn := Try.f14) (d := 18) (by decide) h) ⟨hB, B4, B9, trivial⟩ ?_
  clear fr a; intro a fr
  refine fx_takeskip (i := 9) fr rfl (by kernel_rfl) (fr.unwant rfl rfl rfl (by decide)) rfl (by first | decide | simp) (fun _ _ _ h => panic_putD (fn := Try.f14) (d := 19) (by decide) h) ⟨hB, B4, B9, trivial⟩ ?_
  clear fr a; intro a fr
  refine fx_takeskip (i := 10) fr rfl (by kernel_rfl) (fr.unwant rfl rfl rfl (by decide)) rfl (by first | decide | simp) (fun _ _ _ h => panic_putD (fn := Try.f14) (d := 20) (by decide) h) ⟨hB, B4, B9, trivial⟩ ?_
  clear fr a; intro a fr
  refine fx_take (i := 11) (v := .bool true) fr rfl (by kernel_rfl) rfl rfl (by first | decide | simp) (fun _ _ _ h => panic_putD (fn := Try.f14) (d := 21) (by decide) h) (fun _ ⟨hB, B4, B9, _⟩ => x_pick_t rfl (fr.ev rfl) rfl) ⟨hB, B4, B9, trivial⟩ ?_
  clear fr a; intro a fr
  refine fx_take (i := 12) (v := .bool true) fr rfl (by kernel_rfl) rfl rfl (by first | decide | simp) (fun _ _ _ h => panic_putD (fn := Try.f14) (d := 9) (by decide) h) (fun _ ⟨hB, B4, B9, _⟩ => x_assign rfl (fr.ev rfl)) ⟨hB, B4, B9, trivial⟩ ?_
  clear fr a; intro a fr
  refine fx_hdone (by kernel_rfl) ?_
  refine fx_next ?_
  refine fx_cond_t fr rfl ?_
  refine wp_seq ?_
  refine wp_region_lit ?_  -- region 4
  refine fx_val (v := .slice none 0 0) fr rfl rfl (by first | decide | simp) (x_assign rfl rfl) ?_
  clear fr a; intro a fr
  refine fx_store1 sz26 rfl rfl rfl (fr.ev rfl) rfl rfl B9 (show 0 < 1 by decide) (cs' := #[.int .i64 2]) rfl fun w17 hO18 hBq => ?_
  replace hB := hB.only hO18 (by first | exact ne_b_b6 | exact ne_b6_b.symm | (show ¬ b = b6; omega))
  replace H := H.only hO18 (ne1P ap_Fp_b6)
  replace B4 := B4.only hO18 (by first | exact ne_b1_b6 | exact ne_b6_b1.symm | (show ¬ b1 = b6; omega))
  replace hF := hF.loc hO18 (.inr g_b6)
  replace B9 := hBq
  clear hBq
  refine wpList_nil ?_
  refine fx_next ?_
  refine wp_ret ?_
  refine fx_rb ?_
  refine fx_rt ?_
  refine fx_retD0 fr [.tmp 4, .cell 5 26] [.slice none 0 0, .int .i64 2] rfl ⟨rfl, ⟨_, rfl, x_loadV1 pl26 (B9.cell 0 rfl)⟩, trivial⟩ rfl ?_
  exact ⟨_, rfl, rfl, H, hF⟩
set_option maxRecDepth 100000 in
set_option maxHeartbeats 4000000 in
theorem take_a2 {w : World} {Fp : Nat → Prop} {b : Nat} {id : Int} {n : Nat} {ways : Int} {L : List Ln} {ask : Option (Int × Bool)} {giv : Option Ln} (H : CacheAt w Fp b ⟨id, n, ways, L, ask, giv⟩) (m : Msg) (hc : ¬ chk m ≠ 0) (hx : m.dst ≠ id) : Calls Try.prog 14 #[.pointer (some ⟨b, 0, none⟩), .agg (msgE.arr m)] w (Ret fun v w' => v = .tuple #[.slice none 0 0, .int .i64 2] ∧ CacheAt w' Fp b ⟨id, n, ways, L, ask, giv⟩ ∧ New w w') := by
  have H0 := H
  obtain ⟨lb, FpL, pa, pg, FpA, FpG, hB, hL, hA, hG, hP⟩ := H0
  dsimp only at hB
  clear hL hA hG
  have gA_Fp := fun g (hg : Fp g) => (Or.inl trivial : True ∨ w.heap.size ≤ g)
  have hF := Only.refl (fun _ => False) w
  refine fx_enterD Try.func14 rfl (N := (43, [])) (T := [(0, .pointer (some ⟨b, 0, none⟩)), (1, .agg (msgE.arr m))]) rfl (show 2 ≤ 43 by decide) ⟨rfl, rfl, trivial⟩ fun a fr => ?_
  refine wp_seq ?_
  refine wp_region_lit ?_  -- region 0
  refine fx_new fr rfl rfl (by first | decide | simp) (x_box (cs := msgE.arr m) rfl (fr.ev rfl) rfl) ?_
  clear fr a
  intro b1 w2 hN3 B4 hb5 a fr
  have ne_b_b1 : NE b b1 := NE.mk (Nat.lt_of_lt_of_le hB.lt hb5)
  have ap_Fp_b1 : ¬ Fp b1 := H.apart hb5
  have g_b1 := Nat.le_trans hF.size hb5
  replace hB := hB.new hN3
  replace H := H.new hN3
  replace hF := hF.trNew hN3
  refine fx_val (v := .slice none 0 0) fr rfl rfl (by first | decide | simp) (x_assign rfl rfl) ?_
  clear fr a; intro a fr
  refine fx_new fr rfl rfl (by first | decide | simp) (x_alloc (z := .int .i64 0) (cs := #[.int .i64 0]) rfl (by kernel_rfl) rfl) ?_
  clear fr a
  intro b6 w7 hN8 B9 hb10 a fr
  have ne_b_b6 : NE b b6 := NE.mk (Nat.lt_of_lt_of_le hB.lt hb10)
  have ap_Fp_b6 : ¬ Fp b6 := H.apart hb10
  have ne_b1_b6 : NE b1 b6 := NE.mk (Nat.lt_of_lt_of_le B4.lt hb10)
  have g_b6 := Nat.le_trans hF.size hb10
  replace hB := hB.new hN8
  replace H := H.new hN8
  replace B4 := B4.new hN8
  replace hF := hF.trNew hN8
  refine wpList_nil ?_
  refine fx_next ?_
  refine wp_seq ?_
  refine wp_block ?_
  refine wp_seq ?_
  refine wp_region_lit ?_  -- region 1
  refine fx_val (v := .pointer (some ⟨b, 0, none⟩)) fr rfl rfl (by first | decide | simp) (x_move rfl (fr.ev rfl)) ?_
  clear fr a; intro a fr
  refine fx_call fr rfl rfl (by first | decide | simp) (x_call (vs := [.pointer (some ⟨b, 0, none⟩)]) rfl rfl ⟨(fr.ev rfl), trivial⟩ Try.func43 nm43 rfl) (cnone_c hB) ?_
  clear fr a
  rintro v w9 ⟨rfl, hw9⟩ a fr
  obtain rfl := hw9.symm
  refine fx_val (v := .bool false) fr rfl rfl (by first | decide | simp) (x_assign rfl (fr.ev rfl)) ?_
  clear fr a; intro a fr
  refine wpList_nil ?_
  refine fx_next ?_
  refine fx_cond_f fr rfl ?_
  refine wp_seq ?_
  refine fx_held (n := 13) (fun w => Blk w b 83 #[.int .i64 id, .pointer (some ⟨lb, 0, none⟩), pa, pg] ∧ Blk w b1 35 (msgE.arr m) ∧ Blk w b6 26 (#[.int .i64 0]) ∧ True) (by kernel_rfl) rfl ?_  -- region 3
  intro w13 hN14
  replace hB := hB.new hN14
  replace H := H.new hN14
  replace B4 := B4.new hN14
  replace B9 := B9.new hN14
  replace hF := hF.trNew hN14
  refine fx_take (i := 0) (v := .agg (msgE.arr m)) fr rfl (by kernel_rfl) rfl rfl (by first | decide | simp) (fun _ _ _ h => panic_putD (fn := Try.f14) (d := 10) (by decide) h) (fun _ ⟨hB, B4, B9, _⟩ => x_loadE (E := msgE) ag35 rfl rfl (fr.ev rfl) (B4.rangeE msgE)) ⟨hB, B4, B9, trivial⟩ ?_
  clear fr a; intro a fr
  refine fx_one (i := 1) (by kernel_rfl) (fx_op rfl ?_)
  refine fx_call fr rfl rfl (by first | decide | simp) (x_call (vs := [.agg (msgE.arr m)]) rfl rfl ⟨(fr.ev rfl), trivial⟩ Try.func48 nm48 rfl) (chk_c m _) ?_
  clear fr a
  rintro v w15 ⟨rfl, hN16⟩ a fr
  replace hB := hB.new hN16
  replace H := H.new hN16
  replace B4 := B4.new hN16
  replace B9 := B9.new hN16
  replace hF := hF.trNew hN16
  refine wpList_nil ?_
  refine ⟨⟨hB, B4, B9, trivial⟩, ?_⟩
  refine fx_take (i := 2) (v := .bool false) fr rfl (by kernel_rfl) rfl rfl (by first | decide | simp) (fun _ _ _ h => panic_putD (fn := Try.f14) (d := 12) (by decide) h) (fun _ ⟨hB, B4, B9, _⟩ => x_neq rfl (fr.ev rfl) rfl (decide_eq_false hc)) ⟨hB, B4, B9, trivial⟩ ?_
  clear fr a; intro a fr
  refine fx_take (i := 3) (v := .bool false) fr rfl (by kernel_rfl) rfl rfl (by first | decide | simp) (fun _ _ _ h => panic_putD (fn := Try.f14) (d := 13) (by decide) h) (fun _ ⟨hB, B4, B9, _⟩ => x_move rfl (fr.ev rfl)) ⟨hB, B4, B9, trivial⟩ ?_
  clear fr a; intro a fr
  refine fx_take (i := 4) (v := .pointer (some ⟨b1, 2, none⟩)) fr rfl (by kernel_rfl) (fr.want rfl rfl rfl) rfl (by first | decide | simp) (fun _ _ _ h => panic_putD (fn := Try.f14) (d := 14) (by decide) h) (fun _ ⟨hB, B4, B9, _⟩ => x_fieldAddr fo35_2 rfl (fr.ev rfl) rfl) ⟨hB, B4, B9, trivial⟩ ?_
  clear fr a; intro a fr
  refine fx_take (i := 5) (v := .int .i64 m.dst) fr rfl (by kernel_rfl) (fr.want rfl rfl rfl) rfl (by first | decide | simp) (fun _ _ _ h => panic_putD (fn := Try.f14) (d := 15) (by decide) h) (fun _ ⟨hB, B4, B9, _⟩ => x_load1 pl3 rfl (fr.ev rfl) (B4.cell 2 rfl)) ⟨hB, B4, B9, trivial⟩ ?_
  clear fr a; intro a fr
  refine fx_take (i := 6) (v := .pointer (some ⟨b, 0, none⟩)) fr rfl (by kernel_rfl) (fr.want rfl rfl rfl) rfl (by first | decide | simp) (fun _ _ _ h => panic_putD (fn := Try.f14) (d := 16) (by decide) h) (fun _ ⟨hB, B4, B9, _⟩ => x_move rfl (fr.ev rfl)) ⟨hB, B4, B9, trivial⟩ ?_
  clear fr a; intro a fr
  refine fx_take (i := 7) (v := .pointer (some ⟨b, 0, none⟩)) fr rfl (by kernel_rfl) (fr.want rfl rfl rfl) rfl (by first | decide | simp) (fun _ _ _ h => panic_putD (fn := Try.f14) (d := 17) (by decide) h) (fun _ ⟨hB, B4, B9, _⟩ => x_nilCheck rfl (fr.ev rfl)) ⟨hB, B4, B9, trivial⟩ ?_
  clear fr a; intro a fr
  refine fx_take (i := 8) (v := .pointer (some ⟨b, 0, none⟩)) fr rfl (by kernel_rfl) (fr.want rfl rfl rfl) rfl (by first | decide | simp) (fun _ _ _ h => panic_putD (fn := Try.f14) (d := 18) (by decide) h) (fun _ ⟨hB, B4, B9, _⟩ => x_fieldAddr fo83_0 rfl (fr.ev rfl) rfl) ⟨hB, B4, B9, trivial⟩ ?_
  clear fr a; intro a fr
  refine fx_take (i := 9) (v := .int .i64 id) fr rfl (by kernel_rfl) (fr.want rfl rfl rfl) rfl (by first | decide | simp) (fun _ _ _ h => panic_putD (fn := Try.f14) (d := 19) (by decide) h) (fun _ ⟨hB, B4, B9, _⟩ => x_load1 pl3 rfl (fr.ev rfl) (hB.cell 0 rfl)) ⟨hB, B4, B9, trivial⟩ ?_
  clear fr a; intro a fr
  refine fx_take (i := 10) (v := .bool true) fr rfl (by kernel_rfl) (fr.want rfl rfl rfl) rfl (by first | decide | simp) (fun _ _ _ h => panic_putD (fn := Try.f14) (d := 20) (by decide) h) (fun _ ⟨hB, B4, B9, _⟩ => x_neq rfl (fr.ev rfl) (fr.ev rfl) (decide_eq_true hx)) ⟨hB, B4, B9, trivial⟩ ?_
  clear fr a; intro a fr
  refine fx_take (i := 11) (v := .bool true) fr rfl (by kernel_rfl) rfl rfl (by first | decide | simp) (fun _ _ _ h => panic_putD (fn := Try.f14) (d := 21) (by decide) h) (fun _ ⟨hB, B4, B9, _⟩ => x_pick_f rfl (fr.ev rfl) (fr.ev rfl)) ⟨hB, B4, B9, trivial⟩ ?_
  clear fr a; intro a fr
  refine fx_take (i := 12) (v := .bool true) fr rfl (by kernel_rfl) rfl rfl (by first | decide | simp) (fun _ _ _ h => panic_putD (fn := Try.f14) (d := 9) (by decide) h) (fun _ ⟨hB, B4, B9, _⟩ => x_assign rfl (fr.ev rfl)) ⟨hB, B4, B9, trivial⟩ ?_
  clear fr a; intro a fr
  refine fx_hdone (by kernel_rfl) ?_
  refine fx_next ?_
  refine fx_cond_t fr rfl ?_
  refine wp_seq ?_
  refine wp_region_lit ?_  -- region 4
  refine fx_val (v := .slice none 0 0) fr rfl rfl (by first | decide | simp) (x_assign rfl rfl) ?_
  clear fr a; intro a fr
  refine fx_store1 sz26 rfl rfl rfl (fr.ev rfl) rfl rfl B9 (show 0 < 1 by decide) (cs' := #[.int .i64 2]) rfl fun w17 hO18 hBq => ?_
  replace hB := hB.only hO18 (by first | exact ne_b_b6 | exact ne_b6_b.symm | (show ¬ b = b6; omega))
  replace H := H.only hO18 (ne1P ap_Fp_b6)
  replace B4 := B4.only hO18 (by first | exact ne_b1_b6 | exact ne_b6_b1.symm | (show ¬ b1 = b6; omega))
  replace hF := hF.loc hO18 (.inr g_b6)
  replace B9 := hBq
  clear hBq
  refine wpList_nil ?_
  refine fx_next ?_
  refine wp_ret ?_
  refine fx_rb ?_
  refine fx_rt ?_
  refine fx_retD0 fr [.tmp 4, .cell 5 26] [.slice none 0 0, .int .i64 2] rfl ⟨rfl, ⟨_, rfl, x_loadV1 pl26 (B9.cell 0 rfl)⟩, trivial⟩ rfl ?_
  exact ⟨_, rfl, rfl, H, hF⟩
set_option maxRecDepth 100000 in
set_option maxHeartbeats 4000000 in
theorem take_ret {w : World} {Fp : Nat → Prop} {b : Nat} {id : Int} {n : Nat} {ways : Int} {L : List Ln} {ask : Option (Int × Bool)} {giv : Option Ln} (H : CacheAt w Fp b ⟨id, n, ways, L, ask, giv⟩) (m : Msg) (hck : chk m = 0) (hdn : m.dst = id) {f : Nat} {fn : Func} (hfn : Try.prog.funcs[f]? = some fn) (hnm : (fn.name == "runtime.NumGoroutine") = false) (hbd : fn.body.isNone = false) (hes : (Instr.findNow (.int .i64) (.int .i64 m.kind) (takeEs b).toList 0).map (fun q => (match q with | some (_, u) => u | none => .nilFunc, q.isSome)) = some (.func (.func f) #[.pointer (some ⟨b, 0, none⟩)] #[], true)) {l : List Msg} {d2 : CD} (hc : ∀ w1, Only Fp w w1 → CacheAt w1 Fp b ⟨id, n, ways, L, ask, giv⟩ → Calls Try.prog f #[.pointer (some ⟨b, 0, none⟩), .agg (msgE.arr m)] w1 (Ret fun v w' => ∃ A' cap', v = .slice A' l.length cap' ∧ Own msgE w' A' cap' l ∧ (∀ g, inA A' g → w1.heap.size ≤ g) ∧ ∃ Fp', CacheAt w' Fp' b d2 ∧ Only Fp w1 w' ∧ ∀ g, Fp' g → Fp g ∨ w1.heap.size ≤ g))  : Calls Try.prog 14 #[.pointer (some ⟨b, 0, none⟩), .agg (msgE.arr m)] w (Ret fun v w' => ∃ A' cap', v = .tuple #[.slice A' l.length cap', .int .i64 0] ∧ Own msgE w' A' cap' l ∧ (∀ g, inA A' g → w.heap.size ≤ g) ∧ ∃ Fp', CacheAt w' Fp' b d2 ∧ Only Fp w w' ∧ ∀ g, Fp' g → Fp g ∨ w.heap.size ≤ g) := by
  have H0 := H
  obtain ⟨lb, FpL, pa, pg, FpA, FpG, hB, hL, hA, hG, hP⟩ := H0
  dsimp only at hB
  clear hL hA hG
  have gA_Fp : ∀ g, Fp g → Fp g ∨ w.heap.size ≤ g := fun g hg => .inl hg
  have hF := Only.refl (Fp) w
  refine fx_enterD Try.func14 rfl (N := (43, [])) (T := [(0, .pointer (some ⟨b, 0, none⟩)), (1, .agg (msgE.arr m))]) rfl (show 2 ≤ 43 by decide) ⟨rfl, rfl, trivial⟩ fun a fr => ?_
  refine wp_seq ?_
  refine wp_region_lit ?_  -- region 0
  refine fx_new fr rfl rfl (by first | decide | simp) (x_box (cs := msgE.arr m) rfl (fr.ev rfl) rfl) ?_
  clear fr a
  intro b1 w2 hN3 B4 hb5 a fr
  have ne_b_b1 : NE b b1 := NE.mk (Nat.lt_of_lt_of_le hB.lt hb5)
  have ap_Fp_b1 : ¬ Fp b1 := H.apart hb5
  have g_b1 := Nat.le_trans hF.size hb5
  replace hB := hB.new hN3
  replace H := H.new hN3
  replace hF := hF.trNew hN3
  refine fx_val (v := .slice none 0 0) fr rfl rfl (by first | decide | simp) (x_assign rfl rfl) ?_
  clear fr a; intro a fr
  refine fx_new fr rfl rfl (by first | decide | simp) (x_alloc (z := .int .i64 0) (cs := #[.int .i64 0]) rfl (by kernel_rfl) rfl) ?_
  clear fr a
  intro b6 w7 hN8 B9 hb10 a fr
  have ne_b_b6 : NE b b6 := NE.mk (Nat.lt_of_lt_of_le hB.lt hb10)
  have ap_Fp_b6 : ¬ Fp b6 := H.apart hb10
  have ne_b1_b6 : NE b1 b6 := NE.mk (Nat.lt_of_lt_of_le B4.lt hb10)
  have g_b6 := Nat.le_trans hF.size hb10
  replace hB := hB.new hN8
  replace H := H.new hN8
  replace B4 := B4.new hN8
  replace hF := hF.trNew hN8
  refine wpList_nil ?_
  refine fx_next ?_
  refine wp_seq ?_
  refine wp_block ?_
  refine wp_seq ?_
  have hck2 : ¬ chk m ≠ 0 := fun h => h hck
  have hdn2 : ¬ m.dst ≠ id := fun h => h hdn
  refine wp_region_lit ?_  -- region 1
  refine fx_val (v := .pointer (some ⟨b, 0, none⟩)) fr rfl rfl (by first | decide | simp) (x_move rfl (fr.ev rfl)) ?_
  clear fr a; intro a fr
  refine fx_call fr rfl rfl (by first | decide | simp) (x_call (vs := [.pointer (some ⟨b, 0, none⟩)]) rfl rfl ⟨(fr.ev rfl), trivial⟩ Try.func43 nm43 rfl) (cnone_c hB) ?_
  clear fr a
  rintro v w9 ⟨rfl, hw9⟩ a fr
  obtain rfl := hw9.symm
  refine fx_val (v := .bool false) fr rfl rfl (by first | decide | simp) (x_assign rfl (fr.ev rfl)) ?_
  clear fr a; intro a fr
  refine wpList_nil ?_
  refine fx_next ?_
  refine fx_cond_f fr rfl ?_
  refine wp_seq ?_
  refine fx_held (n := 13) (fun w => Blk w b 83 #[.int .i64 id, .pointer (some ⟨lb, 0, none⟩), pa, pg] ∧ Blk w b1 35 (msgE.arr m) ∧ Blk w b6 26 (#[.int .i64 0]) ∧ True) (by kernel_rfl) rfl ?_  -- region 3
  intro w13 hN14
  replace hB := hB.new hN14
  replace H := H.new hN14
  replace B4 := B4.new hN14
  replace B9 := B9.new hN14
  replace hF := hF.trNew hN14
  refine fx_take (i := 0) (v := .agg (msgE.arr m)) fr rfl (by kernel_rfl) rfl rfl (by first | decide | simp) (fun _ _ _ h => panic_putD (fn := Try.f14) (d := 10) (by decide) h) (fun _ ⟨hB, B4, B9, _⟩ => x_loadE (E := msgE) ag35 rfl rfl (fr.ev rfl) (B4.rangeE msgE)) ⟨hB, B4, B9, trivial⟩ ?_
  clear fr a; intro a fr
  refine fx_one (i := 1) (by kernel_rfl) (fx_op rfl ?_)
  refine fx_call fr rfl rfl (by first | decide | simp) (x_call (vs := [.agg (msgE.arr m)]) rfl rfl ⟨(fr.ev rfl), trivial⟩ Try.func48 nm48 rfl) (chk_c m _) ?_
  clear fr a
  rintro v w15 ⟨rfl, hN16⟩ a fr
  replace hB := hB.new hN16
  replace H := H.new hN16
  replace B4 := B4.new hN16
  replace B9 := B9.new hN16
  replace hF := hF.trNew hN16
  refine wpList_nil ?_
  refine ⟨⟨hB, B4, B9, trivial⟩, ?_⟩
  refine fx_take (i := 2) (v := .bool false) fr rfl (by kernel_rfl) rfl rfl (by first | decide | simp) (fun _ _ _ h => panic_putD (fn := Try.f14) (d := 12) (by decide) h) (fun _ ⟨hB, B4, B9, _⟩ => x_neq rfl (fr.ev rfl) rfl (decide_eq_false hck2)) ⟨hB, B4, B9, trivial⟩ ?_
  clear fr a; intro a fr
  refine fx_take (i := 3) (v := .bool false) fr rfl (by kernel_rfl) rfl rfl (by first | decide | simp) (fun _ _ _ h => panic_putD (fn := Try.f14) (d := 13) (by decide) h) (fun _ ⟨hB, B4, B9, _⟩ => x_move rfl (fr.ev rfl)) ⟨hB, B4, B9, trivial⟩ ?_
  clear fr a; intro a fr
  refine fx_take (i := 4) (v := .pointer (some ⟨b1, 2, none⟩)) fr rfl (by kernel_rfl) (fr.want rfl rfl rfl) rfl (by first | decide | simp) (fun _ _ _ h => panic_putD (fn := Try.f14) (d := 14) (by decide) h) (fun _ ⟨hB, B4, B9, _⟩ => x_fieldAddr fo35_2 rfl (fr.ev rfl) rfl) ⟨hB, B4, B9, trivial⟩ ?_
  clear fr a; intro a fr
  refine fx_take (i := 5) (v := .int .i64 m.dst) fr rfl (by kernel_rfl) (fr.want rfl rfl rfl) rfl (by first | decide | simp) (fun _ _ _ h => panic_putD (fn := Try.f14) (d := 15) (by decide) h) (fun _ ⟨hB, B4, B9, _⟩ => x_load1 pl3 rfl (fr.ev rfl) (B4.cell 2 rfl)) ⟨hB, B4, B9, trivial⟩ ?_
  clear fr a; intro a fr
  refine fx_take (i := 6) (v := .pointer (some ⟨b, 0, none⟩)) fr rfl (by kernel_rfl) (fr.want rfl rfl rfl) rfl (by first | decide | simp) (fun _ _ _ h => panic_putD (fn := Try.f14) (d := 16) (by decide) h) (fun _ ⟨hB, B4, B9, _⟩ => x_move rfl (fr.ev rfl)) ⟨hB, B4, B9, trivial⟩ ?_
  clear fr a; intro a fr
  refine fx_take (i := 7) (v := .pointer (some ⟨b, 0, none⟩)) fr rfl (by kernel_rfl) (fr.want rfl rfl rfl) rfl (by first | decide | simp) (fun _ _ _ h => panic_putD (fn := Try.f14) (d := 17) (by decide) h) (fun _ ⟨hB, B4, B9, _⟩ => x_nilCheck rfl (fr.ev rfl)) ⟨hB, B4, B9, trivial⟩ ?_
  clear fr a; intro a fr
  refine fx_take (i := 8) (v := .pointer (some ⟨b, 0, none⟩)) fr rfl (by kernel_rfl) (fr.want rfl rfl rfl) rfl (by first | decide | simp) (fun _ _ _ h => panic_putD (fn := Try.f14) (d := 18) (by decide) h) (fun _ ⟨hB, B4, B9, _⟩ => x_fieldAddr fo83_0 rfl (fr.ev rfl) rfl) ⟨hB, B4, B9, trivial⟩ ?_
  clear fr a; intro a fr
  refine fx_take (i := 9) (v := .int .i64 id) fr rfl (by kernel_rfl) (fr.want rfl rfl rfl) rfl (by first | decide | simp) (fun _ _ _ h => panic_putD (fn := Try.f14) (d := 19) (by decide) h) (fun _ ⟨hB, B4, B9, _⟩ => x_load1 pl3 rfl (fr.ev rfl) (hB.cell 0 rfl)) ⟨hB, B4, B9, trivial⟩ ?_
  clear fr a; intro a fr
  refine fx_take (i := 10) (v := .bool false) fr rfl (by kernel_rfl) (fr.want rfl rfl rfl) rfl (by first | decide | simp) (fun _ _ _ h => panic_putD (fn := Try.f14) (d := 20) (by decide) h) (fun _ ⟨hB, B4, B9, _⟩ => x_neq rfl (fr.ev rfl) (fr.ev rfl) (decide_eq_false hdn2)) ⟨hB, B4, B9, trivial⟩ ?_
  clear fr a; intro a fr
  refine fx_take (i := 11) (v := .bool false) fr rfl (by kernel_rfl) rfl rfl (by first | decide | simp) (fun _ _ _ h => panic_putD (fn := Try.f14) (d := 21) (by decide) h) (fun _ ⟨hB, B4, B9, _⟩ => x_pick_f rfl (fr.ev rfl) (fr.ev rfl)) ⟨hB, B4, B9, trivial⟩ ?_
  clear fr a; intro a fr
  refine fx_take (i := 12) (v := .bool false) fr rfl (by kernel_rfl) rfl rfl (by first | decide | simp) (fun _ _ _ h => panic_putD (fn := Try.f14) (d := 9) (by decide) h) (fun _ ⟨hB, B4, B9, _⟩ => x_assign rfl (fr.ev rfl)) ⟨hB, B4, B9, trivial⟩ ?_
  clear fr a; intro a fr
  refine fx_hdone (by kernel_rfl) ?_
  refine fx_next ?_
  refine fx_cond_f fr rfl ?_
  refine wp_skip ?_
  refine fx_blk ?_
  refine fx_next ?_
  refine wp_seq ?_
  refine wp_region_lit ?_  -- region 5
  refine fx_defer fr rfl rfl (x_defer (vs := [.pointer (some ⟨b6, 0, none⟩)]) rfl rfl ⟨(fr.ev rfl), trivial⟩) ?_
  clear fr a; intro a fr
  refine wpList_nil ?_
  refine fx_next ?_
  refine wp_seq ?_
  refine wp_region_lit ?_  -- region 6
  refine fx_makeMap fr rfl rfl rfl (by first | decide | simp) ?_
  clear fr a
  intro r17 w18 hN19 M20 hb21 a fr
  have ne_b_r17 : NE b r17 := NE.mk (Nat.lt_of_lt_of_le hB.lt hb21)
  have ap_Fp_r17 : ¬ Fp r17 := H.apart hb21
  have ne_b1_r17 : NE b1 r17 := NE.mk (Nat.lt_of_lt_of_le B4.lt hb21)
  have ne_b6_r17 : NE b6 r17 := NE.mk (Nat.lt_of_lt_of_le B9.lt hb21)
  have g_r17 := Nat.le_trans hF.size hb21
  replace hB := hB.new hN19
  replace H := H.new hN19
  replace B4 := B4.new hN19
  replace B9 := B9.new hN19
  replace hF := hF.trNew hN19
  refine fx_val (v := .pointer (some ⟨b, 0, none⟩)) fr rfl rfl (by first | decide | simp) (x_move rfl (fr.ev rfl)) ?_
  clear fr a; intro a fr
  refine fx_val (v := .func (.func 50) #[.pointer (some ⟨b, 0, none⟩)] #[]) fr rfl rfl (by first | decide | simp) (x_makeBound rfl (fr.ev rfl)) ?_
  clear fr a; intro a fr
  refine fx_insert (es' := #[⟨.int .i64 8, .func (.func 50) #[.pointer (some ⟨b, 0, none⟩)] #[], 0⟩]) Try.underlying115 Try.underlying33 rfl rfl rfl (fr.ev rfl) rfl (fr.ev rfl) M20 rfl rfl fun w22 hO23 hBq => ?_
  replace hB := hB.only hO23 (by first | exact ne_b_r17 | exact ne_r17_b.symm | (show ¬ b = r17; omega))
  replace H := H.only hO23 (ne1P ap_Fp_r17)
  replace B4 := B4.only hO23 (by first | exact ne_b1_r17 | exact ne_r17_b1.symm | (show ¬ b1 = r17; omega))
  replace B9 := B9.only hO23 (by first | exact ne_b6_r17 | exact ne_r17_b6.symm | (show ¬ b6 = r17; omega))
  replace hF := hF.loc hO23 (.inr g_r17)
  replace M20 := hBq
  clear hBq
  refine fx_val (v := .pointer (some ⟨b, 0, none⟩)) fr rfl rfl (by first | decide | simp) (x_move rfl (fr.ev rfl)) ?_
  clear fr a; intro a fr
  refine fx_val (v := .func (.func 50) #[.pointer (some ⟨b, 0, none⟩)] #[]) fr rfl rfl (by first | decide | simp) (x_makeBound rfl (fr.ev rfl)) ?_
  clear fr a; intro a fr
  refine fx_insert (es' := #[⟨.int .i64 8, .func (.func 50) #[.pointer (some ⟨b, 0, none⟩)] #[], 0⟩, ⟨.int .i64 9, .func (.func 50) #[.pointer (some ⟨b, 0, none⟩)] #[], 1⟩]) Try.underlying115 Try.underlying33 rfl rfl rfl (fr.ev rfl) rfl (fr.ev rfl) M20 rfl rfl fun w24 hO25 hBq => ?_
  replace hB := hB.only hO25 (by first | exact ne_b_r17 | exact ne_r17_b.symm | (show ¬ b = r17; omega))
  replace H := H.only hO25 (ne1P ap_Fp_r17)
  replace B4 := B4.only hO25 (by first | exact ne_b1_r17 | exact ne_r17_b1.symm | (show ¬ b1 = r17; omega))
  replace B9 := B9.only hO25 (by first | exact ne_b6_r17 | exact ne_r17_b6.symm | (show ¬ b6 = r17; omega))
  replace hF := hF.loc hO25 (.inr g_r17)
  replace M20 := hBq
  clear hBq
  refine fx_val (v := .pointer (some ⟨b, 0, none⟩)) fr rfl rfl (by first | decide | simp) (x_move rfl (fr.ev rfl)) ?_
  clear fr a; intro a fr
  refine fx_val (v := .func (.func 50) #[.pointer (some ⟨b, 0, none⟩)] #[]) fr rfl rfl (by first | decide | simp) (x_makeBound rfl (fr.ev rfl)) ?_
  clear fr a; intro a fr
  refine fx_insert (es' := #[⟨.int .i64 8, .func (.func 50) #[.pointer (some ⟨b, 0, none⟩)] #[], 0⟩, ⟨.int .i64 9, .func (.func 50) #[.pointer (some ⟨b, 0, none⟩)] #[], 1⟩, ⟨.int .i64 10, .func (.func 50) #[.pointer (some ⟨b, 0, none⟩)] #[], 2⟩]) Try.underlying115 Try.underlying33 rfl rfl rfl (fr.ev rfl) rfl (fr.ev rfl) M20 rfl rfl fun w26 hO27 hBq => ?_
  replace hB := hB.only hO27 (by first | exact ne_b_r17 | exact ne_r17_b.symm | (show ¬ b = r17; omega))
  replace H := H.only hO27 (ne1P ap_Fp_r17)
  replace B4 := B4.only hO27 (by first | exact ne_b1_r17 | exact ne_r17_b1.symm | (show ¬ b1 = r17; omega))
  replace B9 := B9.only hO27 (by first | exact ne_b6_r17 | exact ne_r17_b6.symm | (show ¬ b6 = r17; omega))
  replace hF := hF.loc hO27 (.inr g_r17)
  replace M20 := hBq
  clear hBq
  refine fx_val (v := .pointer (some ⟨b, 0, none⟩)) fr rfl rfl (by first | decide | simp) (x_move rfl (fr.ev rfl)) ?_
  clear fr a; intro a fr
  refine fx_val (v := .func (.func 51) #[.pointer (some ⟨b, 0, none⟩)] #[]) fr rfl rfl (by first | decide | simp) (x_makeBound rfl (fr.ev rfl)) ?_
  clear fr a; intro a fr
  refine fx_insert (es' := #[⟨.int .i64 8, .func (.func 50) #[.pointer (some ⟨b, 0, none⟩)] #[], 0⟩, ⟨.int .i64 9, .func (.func 50) #[.pointer (some ⟨b, 0, none⟩)] #[], 1⟩, ⟨.int .i64 10, .func (.func 50) #[.pointer (some ⟨b, 0, none⟩)] #[], 2⟩, ⟨.int .i64 4, .func (.func 51) #[.pointer (some ⟨b, 0, none⟩)] #[], 3⟩]) Try.underlying115 Try.underlying33 rfl rfl rfl (fr.ev rfl) rfl (fr.ev rfl) M20 rfl rfl fun w28 hO29 hBq => ?_
  replace hB := hB.only hO29 (by first | exact ne_b_r17 | exact ne_r17_b.symm | (show ¬ b = r17; omega))
  replace H := H.only hO29 (ne1P ap_Fp_r17)
  replace B4 := B4.only hO29 (by first | exact ne_b1_r17 | exact ne_r17_b1.symm | (show ¬ b1 = r17; omega))
  replace B9 := B9.only hO29 (by first | exact ne_b6_r17 | exact ne_r17_b6.symm | (show ¬ b6 = r17; omega))
  replace hF := hF.loc hO29 (.inr g_r17)
  replace M20 := hBq
  clear hBq
  refine fx_val (v := .pointer (some ⟨b, 0, none⟩)) fr rfl rfl (by first | decide | simp) (x_move rfl (fr.ev rfl)) ?_
  clear fr a; intro a fr
  refine fx_val (v := .func (.func 51) #[.pointer (some ⟨b, 0, none⟩)] #[]) fr rfl rfl (by first | decide | simp) (x_makeBound rfl (fr.ev rfl)) ?_
  clear fr a; intro a fr
  refine fx_insert (es' := #[⟨.int .i64 8, .func (.func 50) #[.pointer (some ⟨b, 0, none⟩)] #[], 0⟩, ⟨.int .i64 9, .func (.func 50) #[.pointer (some ⟨b, 0, none⟩)] #[], 1⟩, ⟨.int .i64 10, .func (.func 50) #[.pointer (some ⟨b, 0, none⟩)] #[], 2⟩, ⟨.int .i64 4, .func (.func 51) #[.pointer (some ⟨b, 0, none⟩)] #[], 3⟩, ⟨.int .i64 5, .func (.func 51) #[.pointer (some ⟨b, 0, none⟩)] #[], 4⟩]) Try.underlying115 Try.underlying33 rfl rfl rfl (fr.ev rfl) rfl (fr.ev rfl) M20 rfl rfl fun w30 hO31 hBq => ?_
  replace hB := hB.only hO31 (by first | exact ne_b_r17 | exact ne_r17_b.symm | (show ¬ b = r17; omega))
  replace H := H.only hO31 (ne1P ap_Fp_r17)
  replace B4 := B4.only hO31 (by first | exact ne_b1_r17 | exact ne_r17_b1.symm | (show ¬ b1 = r17; omega))
  replace B9 := B9.only hO31 (by first | exact ne_b6_r17 | exact ne_r17_b6.symm | (show ¬ b6 = r17; omega))
  replace hF := hF.loc hO31 (.inr g_r17)
  replace M20 := hBq
  clear hBq
  refine fx_val (v := .pointer (some ⟨b, 0, none⟩)) fr rfl rfl (by first | decide | simp) (x_move rfl (fr.ev rfl)) ?_
  clear fr a; intro a fr
  refine fx_val (v := .func (.func 52) #[.pointer (some ⟨b, 0, none⟩)] #[]) fr rfl rfl (by first | decide | simp) (x_makeBound rfl (fr.ev rfl)) ?_
  clear fr a; intro a fr
  refine fx_insert (es' := #[⟨.int .i64 8, .func (.func 50) #[.pointer (some ⟨b, 0, none⟩)] #[], 0⟩, ⟨.int .i64 9, .func (.func 50) #[.pointer (some ⟨b, 0, none⟩)] #[], 1⟩, ⟨.int .i64 10, .func (.func 50) #[.pointer (some ⟨b, 0, none⟩)] #[], 2⟩, ⟨.int .i64 4, .func (.func 51) #[.pointer (some ⟨b, 0, none⟩)] #[], 3⟩, ⟨.int .i64 5, .func (.func 51) #[.pointer (some ⟨b, 0, none⟩)] #[], 4⟩, ⟨.int .i64 6, .func (.func 52) #[.pointer (some ⟨b, 0, none⟩)] #[], 5⟩]) Try.underlying115 Try.underlying33 rfl rfl rfl (fr.ev rfl) rfl (fr.ev rfl) M20 rfl rfl fun w32 hO33 hBq => ?_
  replace hB := hB.only hO33 (by first | exact ne_b_r17 | exact ne_r17_b.symm | (show ¬ b = r17; omega))
  replace H := H.only hO33 (ne1P ap_Fp_r17)
  replace B4 := B4.only hO33 (by first | exact ne_b1_r17 | exact ne_r17_b1.symm | (show ¬ b1 = r17; omega))
  replace B9 := B9.only hO33 (by first | exact ne_b6_r17 | exact ne_r17_b6.symm | (show ¬ b6 = r17; omega))
  replace hF := hF.loc hO33 (.inr g_r17)
  replace M20 := hBq
  clear hBq
  refine fx_val (v := .pointer (some ⟨b, 0, none⟩)) fr rfl rfl (by first | decide | simp) (x_move rfl (fr.ev rfl)) ?_
  clear fr a; intro a fr
  refine fx_val (v := .func (.func 53) #[.pointer (some ⟨b, 0, none⟩)] #[]) fr rfl rfl (by first | decide | simp) (x_makeBound rfl (fr.ev rfl)) ?_
  clear fr a; intro a fr
  refine fx_insert (es' := #[⟨.int .i64 8, .func (.func 50) #[.pointer (some ⟨b, 0, none⟩)] #[], 0⟩, ⟨.int .i64 9, .func (.func 50) #[.pointer (some ⟨b, 0, none⟩)] #[], 1⟩, ⟨.int .i64 10, .func (.func 50) #[.pointer (some ⟨b, 0, none⟩)] #[], 2⟩, ⟨.int .i64 4, .func (.func 51) #[.pointer (some ⟨b, 0, none⟩)] #[], 3⟩, ⟨.int .i64 5, .func (.func 51) #[.pointer (some ⟨b, 0, none⟩)] #[], 4⟩, ⟨.int .i64 6, .func (.func 52) #[.pointer (some ⟨b, 0, none⟩)] #[], 5⟩, ⟨.int .i64 7, .func (.func 53) #[.pointer (some ⟨b, 0, none⟩)] #[], 6⟩]) Try.underlying115 Try.underlying33 rfl rfl rfl (fr.ev rfl) rfl (fr.ev rfl) M20 rfl rfl fun w34 hO35 hBq => ?_
  replace hB := hB.only hO35 (by first | exact ne_b_r17 | exact ne_r17_b.symm | (show ¬ b = r17; omega))
  replace H := H.only hO35 (ne1P ap_Fp_r17)
  replace B4 := B4.only hO35 (by first | exact ne_b1_r17 | exact ne_r17_b1.symm | (show ¬ b1 = r17; omega))
  replace B9 := B9.only hO35 (by first | exact ne_b6_r17 | exact ne_r17_b6.symm | (show ¬ b6 = r17; omega))
  replace hF := hF.loc hO35 (.inr g_r17)
  replace M20 := hBq
  clear hBq
  refine fx_val (v := .map (some r17)) fr rfl rfl (by first | decide | simp) (x_move rfl (fr.ev rfl)) ?_
  clear fr a; intro a fr
  refine fx_val (v := .pointer (some ⟨b1, 0, none⟩)) fr rfl rfl (by first | decide | simp) (x_fieldAddr fo35_0 rfl (fr.ev rfl) rfl) ?_
  clear fr a; intro a fr
  refine fx_val (v := .int .i64 m.kind) fr rfl rfl (by first | decide | simp) (x_load1 pl33 rfl (fr.ev rfl) (B4.cell 0 rfl)) ?_
  clear fr a; intro a fr
  refine fx_val (v := .func (.func f) #[.pointer (some ⟨b, 0, none⟩)] #[]) fr rfl rfl (by first | decide | simp) (x_lookup (k := .i64) (ok := false) (v := .func (.func f) #[.pointer (some ⟨b, 0, none⟩)] #[]) (b := true) Try.underlying115 Try.underlying33 rfl (fr.ev rfl) (fr.ev rfl) M20 (z := .nilFunc) (by kernel_rfl) hes) ?_
  clear fr a; intro a fr
  refine fx_val (v := .agg (msgE.arr m)) fr rfl rfl (by first | decide | simp) (x_loadE (E := msgE) ag35 rfl rfl (fr.ev rfl) (B4.rangeE msgE)) ?_
  clear fr a; intro a fr
  refine fx_call fr rfl rfl (by first | decide | simp) (x_callb (all := #[.pointer (some ⟨b, 0, none⟩), .agg (msgE.arr m)]) (vs := [.agg (msgE.arr m)]) rfl (fr.ev rfl) ⟨(fr.ev rfl), trivial⟩ rfl hfn hnm hbd) (hc _ hF H) ?_
  clear fr a
  rintro v w43 ⟨A36, cap37, rfl, O38, hA39, Fp40, H41, hN44, mv42⟩ a fr
  clear H
  have gN_A36 := fun g (hg : inA A36 g) => Nat.le_trans hF.size (hA39 g hg)
  have ap_Fp40_b1 : ¬ Fp40 b1 := moved_apartP mv42 ap_Fp_b1 B4.lt
  have ap_A36_b1 : Apart A36 b1 := new_apart hA39 B4.lt
  have ap_Fp40_b6 : ¬ Fp40 b6 := moved_apartP mv42 ap_Fp_b6 B9.lt
  have ap_A36_b6 : Apart A36 b6 := new_apart hA39 B9.lt
  have ap_Fp40_r17 : ¬ Fp40 r17 := moved_apartP mv42 ap_Fp_r17 M20.lt
  have ap_A36_r17 : Apart A36 r17 := new_apart hA39 M20.lt
  have gA_Fp40 := gA_movedP hF mv42 gA_Fp
  replace B4 := B4.only hN44 ap_Fp_b1
  replace B9 := B9.only hN44 ap_Fp_b6
  replace M20 := M20.only hN44 ap_Fp_r17
  replace hF := hF.locP hN44 gA_Fp
  refine fx_val (v := .slice A36 l.length cap37) fr rfl rfl (by first | decide | simp) (x_assign rfl (fr.ev rfl)) ?_
  clear fr a; intro a fr
  refine fx_store1 sz26 rfl rfl rfl (fr.ev rfl) rfl rfl B9 (show 0 < 1 by decide) (cs' := #[.int .i64 0]) rfl fun w45 hO46 hBq => ?_
  replace B4 := B4.only hO46 (by first | exact ne_b1_b6 | exact ne_b6_b1.symm | (show ¬ b1 = b6; omega))
  replace M20 := M20.only hO46 (by first | exact ne_r17_b6 | exact ne_b6_r17.symm | (show ¬ r17 = b6; omega))
  replace O38 := O38.only hO46 (Apart.ne1 ap_A36_b6)
  replace H41 := H41.only hO46 (ne1P ap_Fp40_b6)
  replace hF := hF.loc hO46 (.inr g_b6)
  replace B9 := hBq
  clear hBq
  refine wpList_nil ?_
  refine fx_next ?_
  refine wp_ret ?_
  refine fx_retD1 fr rfl (caught_idle b6 _) [.tmp 4, .cell 5 26] [.slice A36 l.length cap37, .int .i64 0] rfl ⟨rfl, ⟨_, rfl, x_loadV1 pl26 (B9.cell 0 rfl)⟩, trivial⟩ rfl ?_
  exact ⟨_, rfl, A36, cap37, rfl, O38, gN_A36, Fp40, H41, hF, gA_Fp40⟩
set_option maxRecDepth 100000 in
set_option maxHeartbeats 4000000 in
theorem take_pan {w : World} {Fp : Nat → Prop} {b : Nat} {id : Int} {n : Nat} {ways : Int} {L : List Ln} {ask : Option (Int × Bool)} {giv : Option Ln} (H : CacheAt w Fp b ⟨id, n, ways, L, ask, giv⟩) (m : Msg) (hck : chk m = 0) (hdn : m.dst = id) {f : Nat} {fn : Func} (hfn : Try.prog.funcs[f]? = some fn) (hnm : (fn.name == "runtime.NumGoroutine") = false) (hbd : fn.body.isNone = false) (hes : (Instr.findNow (.int .i64) (.int .i64 m.kind) (takeEs b).toList 0).map (fun q => (match q with | some (_, u) => u | none => .nilFunc, q.isSome)) = some (.func (.func f) #[.pointer (some ⟨b, 0, none⟩)] #[], true)) (hc : ∀ w1, New w w1 → CacheAt w1 Fp b ⟨id, n, ways, L, ask, giv⟩ → Calls Try.prog f #[.pointer (some ⟨b, 0, none⟩), .agg (msgE.arr m)] w1 (Pan fun c w' => c = stopE 220 ∧ New w1 w'))  : Calls Try.prog 14 #[.pointer (some ⟨b, 0, none⟩), .agg (msgE.arr m)] w (Ret fun v w' => v = .tuple #[.slice none 0 0, .int .i64 220] ∧ CacheAt w' Fp b ⟨id, n, ways, L, ask, giv⟩ ∧ New w w') := by
  have H0 := H
  obtain ⟨lb, FpL, pa, pg, FpA, FpG, hB, hL, hA, hG, hP⟩ := H0
  dsimp only at hB
  clear hL hA hG
  have gA_Fp := fun g (hg : Fp g) => (Or.inl trivial : True ∨ w.heap.size ≤ g)
  have hF := Only.refl (fun _ => False) w
  refine fx_enterD Try.func14 rfl (N := (43, [])) (T := [(0, .pointer (some ⟨b, 0, none⟩)), (1, .agg (msgE.arr m))]) rfl (show 2 ≤ 43 by decide) ⟨rfl, rfl, trivial⟩ fun a fr => ?_
  refine wp_seq ?_
  refine wp_region_lit ?_  -- region 0
  refine fx_new fr rfl rfl (by first | decide | simp) (x_box (cs := msgE.arr m) rfl (fr.ev rfl) rfl) ?_
  clear fr a
  intro b1 w2 hN3 B4 hb5 a fr
  have ne_b_b1 : NE b b1 := NE.mk (Nat.lt_of_lt_of_le hB.lt hb5)
  have ap_Fp_b1 : ¬ Fp b1 := H.apart hb5
  have g_b1 := Nat.le_trans hF.size hb5
  replace hB := hB.new hN3
  replace H := H.new hN3
  replace hF := hF.trNew hN3
  refine fx_val (v := .slice none 0 0) fr rfl rfl (by first | decide | simp) (x_assign rfl rfl) ?_
  clear fr a; intro a fr
  refine fx_new fr rfl rfl (by first | decide | simp) (x_alloc (z := .int .i64 0) (cs := #[.int .i64 0]) rfl (by kernel_rfl) rfl) ?_
  clear fr a
  intro b6 w7 hN8 B9 hb10 a fr
  have ne_b_b6 : NE b b6 := NE.mk (Nat.lt_of_lt_of_le hB.lt hb10)
  have ap_Fp_b6 : ¬ Fp b6 := H.apart hb10
  have ne_b1_b6 : NE b1 b6 := NE.mk (Nat.lt_of_lt_of_le B4.lt hb10)
  have g_b6 := Nat.le_trans hF.size hb10
  replace hB := hB.new hN8
  replace H := H.new hN8
  replace B4 := B4.new hN8
  replace hF := hF.trNew hN8
  refine wpList_nil ?_
  refine fx_next ?_
  refine wp_seq ?_
  refine wp_block ?_
  refine wp_seq ?_
  have hck2 : ¬ chk m ≠ 0 := fun h => h hck
  have hdn2 : ¬ m.dst ≠ id := fun h => h hdn
  refine wp_region_lit ?_  -- region 1
  refine fx_val (v := .pointer (some ⟨b, 0, none⟩)) fr rfl rfl (by first | decide | simp) (x_move rfl (fr.ev rfl)) ?_
  clear fr a; intro a fr
  refine fx_call fr rfl rfl (by first | decide | simp) (x_call (vs := [.pointer (some ⟨b, 0, none⟩)]) rfl rfl ⟨(fr.ev rfl), trivial⟩ Try.func43 nm43 rfl) (cnone_c hB) ?_
  clear fr a
  rintro v w9 ⟨rfl, hw9⟩ a fr
  obtain rfl := hw9.symm
  refine fx_val (v := .bool false) fr rfl rfl (by first | decide | simp) (x_assign rfl (fr.ev rfl)) ?_
  clear fr a; intro a fr
  refine wpList_nil ?_
  refine fx_next ?_
  refine fx_cond_f fr rfl ?_
  refine wp_seq ?_
  refine fx_held (n := 13) (fun w => Blk w b 83 #[.int .i64 id, .pointer (some ⟨lb, 0, none⟩), pa, pg] ∧ Blk w b1 35 (msgE.arr m) ∧ Blk w b6 26 (#[.int .i64 0]) ∧ True) (by kernel_rfl) rfl ?_  -- region 3
  intro w13 hN14
  replace hB := hB.new hN14
  replace H := H.new hN14
  replace B4 := B4.new hN14
  replace B9 := B9.new hN14
  replace hF := hF.trNew hN14
  refine fx_take (i := 0) (v := .agg (msgE.arr m)) fr rfl (by kernel_rfl) rfl rfl (by first | decide | simp) (fun _ _ _ h => panic_putD (fn := Try.f14) (d := 10) (by decide) h) (fun _ ⟨hB, B4, B9, _⟩ => x_loadE (E := msgE) ag35 rfl rfl (fr.ev rfl) (B4.rangeE msgE)) ⟨hB, B4, B9, trivial⟩ ?_
  clear fr a; intro a fr
  refine fx_one (i := 1) (by kernel_rfl) (fx_op rfl ?_)
  refine fx_call fr rfl rfl (by first | decide | simp) (x_call (vs := [.agg (msgE.arr m)]) rfl rfl ⟨(fr.ev rfl), trivial⟩ Try.func48 nm48 rfl) (chk_c m _) ?_
  clear fr a
  rintro v w15 ⟨rfl, hN16⟩ a fr
  replace hB := hB.new hN16
  replace H := H.new hN16
  replace B4 := B4.new hN16
  replace B9 := B9.new hN16
  replace hF := hF.trNew hN16
  refine wpList_nil ?_
  refine ⟨⟨hB, B4, B9, trivial⟩, ?_⟩
  refine fx_take (i := 2) (v := .bool false) fr rfl (by kernel_rfl) rfl rfl (by first | decide | simp) (fun _ _ _ h => panic_putD (fn := Try.f14) (d := 12) (by decide) h) (fun _ ⟨hB, B4, B9, _⟩ => x_neq rfl (fr.ev rfl) rfl (decide_eq_false hck2)) ⟨hB, B4, B9, trivial⟩ ?_
  clear fr a; intro a fr
  refine fx_take (i := 3) (v := .bool false) fr rfl (by kernel_rfl) rfl rfl (by first | decide | simp) (fun _ _ _ h => panic_putD (fn := Try.f14) (d := 13) (by decide) h) (fun _ ⟨hB, B4, B9, _⟩ => x_move rfl (fr.ev rfl)) ⟨hB, B4, B9, trivial⟩ ?_
  clear fr a; intro a fr
  refine fx_take (i := 4) (v := .pointer (some ⟨b1, 2, none⟩)) fr rfl (by kernel_rfl) (fr.want rfl rfl rfl) rfl (by first | decide | simp) (fun _ _ _ h => panic_putD (fn := Try.f14) (d := 14) (by decide) h) (fun _ ⟨hB, B4, B9, _⟩ => x_fieldAddr fo35_2 rfl (fr.ev rfl) rfl) ⟨hB, B4, B9, trivial⟩ ?_
  clear fr a; intro a fr
  refine fx_take (i := 5) (v := .int .i64 m.dst) fr rfl (by kernel_rfl) (fr.want rfl rfl rfl) rfl (by first | decide | simp) (fun _ _ _ h => panic_putD (fn := Try.f14) (d := 15) (by decide) h) (fun _ ⟨hB, B4, B9, _⟩ => x_load1 pl3 rfl (fr.ev rfl) (B4.cell 2 rfl)) ⟨hB, B4, B9, trivial⟩ ?_
  clear fr a; intro a fr
  refine fx_take (i := 6) (v := .pointer (some ⟨b, 0, none⟩)) fr rfl (by kernel_rfl) (fr.want rfl rfl rfl) rfl (by first | decide | simp) (fun _ _ _ h => panic_putD (fn := Try.f14) (d := 16) (by decide) h) (fun _ ⟨hB, B4, B9, _⟩ => x_move rfl (fr.ev rfl)) ⟨hB, B4, B9, trivial⟩ ?_
  clear fr a; intro a fr
  refine fx_take (i := 7) (v := .pointer (some ⟨b, 0, none⟩)) fr rfl (by kernel_rfl) (fr.want rfl rfl rfl) rfl (by first | decide | simp) (fun _ _ _ h => panic_putD (fn := Try.f14) (d := 17) (by decide) h) (fun _ ⟨hB, B4, B9, _⟩ => x_nilCheck rfl (fr.ev rfl)) ⟨hB, B4, B9, trivial⟩ ?_
  clear fr a; intro a fr
  refine fx_take (i := 8) (v := .pointer (some ⟨b, 0, none⟩)) fr rfl (by kernel_rfl) (fr.want rfl rfl rfl) rfl (by first | decide | simp) (fun _ _ _ h => panic_putD (fn := Try.f14) (d := 18) (by decide) h) (fun _ ⟨hB, B4, B9, _⟩ => x_fieldAddr fo83_0 rfl (fr.ev rfl) rfl) ⟨hB, B4, B9, trivial⟩ ?_
  clear fr a; intro a fr
  refine fx_take (i := 9) (v := .int .i64 id) fr rfl (by kernel_rfl) (fr.want rfl rfl rfl) rfl (by first | decide | simp) (fun _ _ _ h => panic_putD (fn := Try.f14) (d := 19) (by decide) h) (fun _ ⟨hB, B4, B9, _⟩ => x_load1 pl3 rfl (fr.ev rfl) (hB.cell 0 rfl)) ⟨hB, B4, B9, trivial⟩ ?_
  clear fr a; intro a fr
  refine fx_take (i := 10) (v := .bool false) fr rfl (by kernel_rfl) (fr.want rfl rfl rfl) rfl (by first | decide | simp) (fun _ _ _ h => panic_putD (fn := Try.f14) (d := 20) (by decide) h) (fun _ ⟨hB, B4, B9, _⟩ => x_neq rfl (fr.ev rfl) (fr.ev rfl) (decide_eq_false hdn2)) ⟨hB, B4, B9, trivial⟩ ?_
  clear fr a; intro a fr
  refine fx_take (i := 11) (v := .bool false) fr rfl (by kernel_rfl) rfl rfl (by first | decide | simp) (fun _ _ _ h => panic_putD (fn := Try.f14) (d := 21) (by decide) h) (fun _ ⟨hB, B4, B9, _⟩ => x_pick_f rfl (fr.ev rfl) (fr.ev rfl)) ⟨hB, B4, B9, trivial⟩ ?_
  clear fr a; intro a fr
  refine fx_take (i := 12) (v := .bool false) fr rfl (by kernel_rfl) rfl rfl (by first | decide | simp) (fun _ _ _ h => panic_putD (fn := Try.f14) (d := 9) (by decide) h) (fun _ ⟨hB, B4, B9, _⟩ => x_assign rfl (fr.ev rfl)) ⟨hB, B4, B9, trivial⟩ ?_
  clear fr a; intro a fr
  refine fx_hdone (by kernel_rfl) ?_
  refine fx_next ?_
  refine fx_cond_f fr rfl ?_
  refine wp_skip ?_
  refine fx_blk ?_
  refine fx_next ?_
  refine wp_seq ?_
  refine wp_region_lit ?_  -- region 5
  refine fx_defer fr rfl rfl (x_defer (vs := [.pointer (some ⟨b6, 0, none⟩)]) rfl rfl ⟨(fr.ev rfl), trivial⟩) ?_
  clear fr a; intro a fr
  refine wpList_nil ?_
  refine fx_next ?_
  refine wp_seq ?_
  refine wp_region_lit ?_  -- region 6
  refine fx_makeMap fr rfl rfl rfl (by first | decide | simp) ?_
  clear fr a
  intro r17 w18 hN19 M20 hb21 a fr
  have ne_b_r17 : NE b r17 := NE.mk (Nat.lt_of_lt_of_le hB.lt hb21)
  have ap_Fp_r17 : ¬ Fp r17 := H.apart hb21
  have ne_b1_r17 : NE b1 r17 := NE.mk (Nat.lt_of_lt_of_le B4.lt hb21)
  have ne_b6_r17 : NE b6 r17 := NE.mk (Nat.lt_of_lt_of_le B9.lt hb21)
  have g_r17 := Nat.le_trans hF.size hb21
  replace hB := hB.new hN19
  replace H := H.new hN19
  replace B4 := B4.new hN19
  replace B9 := B9.new hN19
  replace hF := hF.trNew hN19
  refine fx_val (v := .pointer (some ⟨b, 0, none⟩)) fr rfl rfl (by first | decide | simp) (x_move rfl (fr.ev rfl)) ?_
  clear fr a; intro a fr
  refine fx_val (v := .func (.func 50) #[.pointer (some ⟨b, 0, none⟩)] #[]) fr rfl rfl (by first | decide | simp) (x_makeBound rfl (fr.ev rfl)) ?_
  clear fr a; intro a fr
  refine fx_insert (es' := #[⟨.int .i64 8, .func (.func 50) #[.pointer (some ⟨b, 0, none⟩)] #[], 0⟩]) Try.underlying115 Try.underlying33 rfl rfl rfl (fr.ev rfl) rfl (fr.ev rfl) M20 rfl rfl fun w22 hO23 hBq => ?_
  replace hB := hB.only hO23 (by first | exact ne_b_r17 | exact ne_r17_b.symm | (show ¬ b = r17; omega))
  replace H := H.only hO23 (ne1P ap_Fp_r17)
  replace B4 := B4.only hO23 (by first | exact ne_b1_r17 | exact ne_r17_b1.symm | (show ¬ b1 = r17; omega))
  replace B9 := B9.only hO23 (by first | exact ne_b6_r17 | exact ne_r17_b6.symm | (show ¬ b6 = r17; omega))
  replace hF := hF.loc hO23 (.inr g_r17)
  replace M20 := hBq
  clear hBq
  refine fx_val (v := .pointer (some ⟨b, 0, none⟩)) fr rfl rfl (by first | decide | simp) (x_move rfl (fr.ev rfl)) ?_
  clear fr a; intro a fr
  refine fx_val (v := .func (.func 50) #[.pointer (some ⟨b, 0, none⟩)] #[]) fr rfl rfl (by first | decide | simp) (x_makeBound rfl (fr.ev rfl)) ?_
  clear fr a; intro a fr
  refine fx_insert (es' := #[⟨.int .i64 8, .func (.func 50) #[.pointer (some ⟨b, 0, none⟩)] #[], 0⟩, ⟨.int .i64 9, .func (.func 50) #[.pointer (some ⟨b, 0, none⟩)] #[], 1⟩]) Try.underlying115 Try.underlying33 rfl rfl rfl (fr.ev rfl) rfl (fr.ev rfl) M20 rfl rfl fun w24 hO25 hBq => ?_
  replace hB := hB.only hO25 (by first | exact ne_b_r17 | exact ne_r17_b.symm | (show ¬ b = r17; omega))
  replace H := H.only hO25 (ne1P ap_Fp_r17)
  replace B4 := B4.only hO25 (by first | exact ne_b1_r17 | exact ne_r17_b1.symm | (show ¬ b1 = r17; omega))
  replace B9 := B9.only hO25 (by first | exact ne_b6_r17 | exact ne_r17_b6.symm | (show ¬ b6 = r17; omega))
  replace hF := hF.loc hO25 (.inr g_r17)
  replace M20 := hBq
  clear hBq
  refine fx_val (v := .pointer (some ⟨b, 0, none⟩)) fr rfl rfl (by first | decide | simp) (x_move rfl (fr.ev rfl)) ?_
  clear fr a; intro a fr
  refine fx_val (v := .func (.func 50) #[.pointer (some ⟨b, 0, none⟩)] #[]) fr rfl rfl (by first | decide | simp) (x_makeBound rfl (fr.ev rfl)) ?_
  clear fr a; intro a fr
  refine fx_insert (es' := #[⟨.int .i64 8, .func (.func 50) #[.pointer (some ⟨b, 0, none⟩)] #[], 0⟩, ⟨.int .i64 9, .func (.func 50) #[.pointer (some ⟨b, 0, none⟩)] #[], 1⟩, ⟨.int .i64 10, .func (.func 50) #[.pointer (some ⟨b, 0, none⟩)] #[], 2⟩]) Try.underlying115 Try.underlying33 rfl rfl rfl (fr.ev rfl) rfl (fr.ev rfl) M20 rfl rfl fun w26 hO27 hBq => ?_
  replace hB := hB.only hO27 (by first | exact ne_b_r17 | exact ne_r17_b.symm | (show ¬ b = r17; omega))
  replace H := H.only hO27 (ne1P ap_Fp_r17)
  replace B4 := B4.only hO27 (by first | exact ne_b1_r17 | exact ne_r17_b1.symm | (show ¬ b1 = r17; omega))
  replace B9 := B9.only hO27 (by first | exact ne_b6_r17 | exact ne_r17_b6.symm | (show ¬ b6 = r17; omega))
  replace hF := hF.loc hO27 (.inr g_r17)
  replace M20 := hBq
  clear hBq
  refine fx_val (v := .pointer (some ⟨b, 0, none⟩)) fr rfl rfl (by first | decide | simp) (x_move rfl (fr.ev rfl)) ?_
  clear fr a; intro a fr
  refine fx_val (v := .func (.func 51) #[.pointer (some ⟨b, 0, none⟩)] #[]) fr rfl rfl (by first | decide | simp) (x_makeBound rfl (fr.ev rfl)) ?_
  clear fr a; intro a fr
  refine fx_insert (es' := #[⟨.int .i64 8, .func (.func 50) #[.pointer (some ⟨b, 0, none⟩)] #[], 0⟩, ⟨.int .i64 9, .func (.func 50) #[.pointer (some ⟨b, 0, none⟩)] #[], 1⟩, ⟨.int .i64 10, .func (.func 50) #[.pointer (some ⟨b, 0, none⟩)] #[], 2⟩, ⟨.int .i64 4, .func (.func 51) #[.pointer (some ⟨b, 0, none⟩)] #[], 3⟩]) Try.underlying115 Try.underlying33 rfl rfl rfl (fr.ev rfl) rfl (fr.ev rfl) M20 rfl rfl fun w28 hO29 hBq => ?_
  replace hB := hB.only hO29 (by first | exact ne_b_r17 | exact ne_r17_b.symm | (show ¬ b = r17; omega))
  replace H := H.only hO29 (ne1P ap_Fp_r17)
  replace B4 := B4.only hO29 (by first | exact ne_b1_r17 | exact ne_r17_b1.symm | (show ¬ b1 = r17; omega))
  replace B9 := B9.only hO29 (by first | exact ne_b6_r17 | exact ne_r17_b6.symm | (show ¬ b6 = r17; omega))
  replace hF := hF.loc hO29 (.inr g_r17)
  replace M20 := hBq
  clear hBq
  refine fx_val (v := .pointer (some ⟨b, 0, none⟩)) fr rfl rfl (by first | decide | simp) (x_move rfl (fr.ev rfl)) ?_
  clear fr a; intro a fr
  refine fx_val (v := .func (.func 51) #[.pointer (some ⟨b, 0, none⟩)] #[]) fr rfl rfl (by first | decide | simp) (x_makeBound rfl (fr.ev rfl)) ?_
  clear fr a; intro a fr
  refine fx_insert (es' := #[⟨.int .i64 8, .func (.func 50) #[.pointer (some ⟨b, 0, none⟩)] #[], 0⟩, ⟨.int .i64 9, .func (.func 50) #[.pointer (some ⟨b, 0, none⟩)] #[], 1⟩, ⟨.int .i64 10, .func (.func 50) #[.pointer (some ⟨b, 0, none⟩)] #[], 2⟩, ⟨.int .i64 4, .func (.func 51) #[.pointer (some ⟨b, 0, none⟩)] #[], 3⟩, ⟨.int .i64 5, .func (.func 51) #[.pointer (some ⟨b, 0, none⟩)] #[], 4⟩]) Try.underlying115 Try.underlying33 rfl rfl rfl (fr.ev rfl) rfl (fr.ev rfl) M20 rfl rfl fun w30 hO31 hBq => ?_
  replace hB := hB.only hO31 (by first | exact ne_b_r17 | exact ne_r17_b.symm | (show ¬ b = r17; omega))
  replace H := H.only hO31 (ne1P ap_Fp_r17)
  replace B4 := B4.only hO31 (by first | exact ne_b1_r17 | exact ne_r17_b1.symm | (show ¬ b1 = r17; omega))
  replace B9 := B9.only hO31 (by first | exact ne_b6_r17 | exact ne_r17_b6.symm | (show ¬ b6 = r17; omega))
  replace hF := hF.loc hO31 (.inr g_r17)
  replace M20 := hBq
  clear hBq
  refine fx_val (v := .pointer (some ⟨b, 0, none⟩)) fr rfl rfl (by first | decide | simp) (x_move rfl (fr.ev rfl)) ?_
  clear fr a; intro a fr
  refine fx_val (v := .func (.func 52) #[.pointer (some ⟨b, 0, none⟩)] #[]) fr rfl rfl (by first | decide | simp) (x_makeBound rfl (fr.ev rfl)) ?_
  clear fr a; intro a fr
  refine fx_insert (es' := #[⟨.int .i64 8, .func (.func 50) #[.pointer (some ⟨b, 0, none⟩)] #[], 0⟩, ⟨.int .i64 9, .func (.func 50) #[.pointer (some ⟨b, 0, none⟩)] #[], 1⟩, ⟨.int .i64 10, .func (.func 50) #[.pointer (some ⟨b, 0, none⟩)] #[], 2⟩, ⟨.int .i64 4, .func (.func 51) #[.pointer (some ⟨b, 0, none⟩)] #[], 3⟩, ⟨.int .i64 5, .func (.func 51) #[.pointer (some ⟨b, 0, none⟩)] #[], 4⟩, ⟨.int .i64 6, .func (.func 52) #[.pointer (some ⟨b, 0, none⟩)] #[], 5⟩]) Try.underlying115 Try.underlying33 rfl rfl rfl (fr.ev rfl) rfl (fr.ev rfl) M20 rfl rfl fun w32 hO33 hBq => ?_
  replace hB := hB.only hO33 (by first | exact ne_b_r17 | exact ne_r17_b.symm | (show ¬ b = r17; omega))
  replace H := H.only hO33 (ne1P ap_Fp_r17)
  replace B4 := B4.only hO33 (by first | exact ne_b1_r17 | exact ne_r17_b1.symm | (show ¬ b1 = r17; omega))
  replace B9 := B9.only hO33 (by first | exact ne_b6_r17 | exact ne_r17_b6.symm | (show ¬ b6 = r17; omega))
  replace hF := hF.loc hO33 (.inr g_r17)
  replace M20 := hBq
  clear hBq
  refine fx_val (v := .pointer (some ⟨b, 0, none⟩)) fr rfl rfl (by first | decide | simp) (x_move rfl (fr.ev rfl)) ?_
  clear fr a; intro a fr
  refine fx_val (v := .func (.func 53) #[.pointer (some ⟨b, 0, none⟩)] #[]) fr rfl rfl (by first | decide | simp) (x_makeBound rfl (fr.ev rfl)) ?_
  clear fr a; intro a fr
  refine fx_insert (es' := #[⟨.int .i64 8, .func (.func 50) #[.pointer (some ⟨b, 0, none⟩)] #[], 0⟩, ⟨.int .i64 9, .func (.func 50) #[.pointer (some ⟨b, 0, none⟩)] #[], 1⟩, ⟨.int .i64 10, .func (.func 50) #[.pointer (some ⟨b, 0, none⟩)] #[], 2⟩, ⟨.int .i64 4, .func (.func 51) #[.pointer (some ⟨b, 0, none⟩)] #[], 3⟩, ⟨.int .i64 5, .func (.func 51) #[.pointer (some ⟨b, 0, none⟩)] #[], 4⟩, ⟨.int .i64 6, .func (.func 52) #[.pointer (some ⟨b, 0, none⟩)] #[], 5⟩, ⟨.int .i64 7, .func (.func 53) #[.pointer (some ⟨b, 0, none⟩)] #[], 6⟩]) Try.underlying115 Try.underlying33 rfl rfl rfl (fr.ev rfl) rfl (fr.ev rfl) M20 rfl rfl fun w34 hO35 hBq => ?_
  replace hB := hB.only hO35 (by first | exact ne_b_r17 | exact ne_r17_b.symm | (show ¬ b = r17; omega))
  replace H := H.only hO35 (ne1P ap_Fp_r17)
  replace B4 := B4.only hO35 (by first | exact ne_b1_r17 | exact ne_r17_b1.symm | (show ¬ b1 = r17; omega))
  replace B9 := B9.only hO35 (by first | exact ne_b6_r17 | exact ne_r17_b6.symm | (show ¬ b6 = r17; omega))
  replace hF := hF.loc hO35 (.inr g_r17)
  replace M20 := hBq
  clear hBq
  refine fx_val (v := .map (some r17)) fr rfl rfl (by first | decide | simp) (x_move rfl (fr.ev rfl)) ?_
  clear fr a; intro a fr
  refine fx_val (v := .pointer (some ⟨b1, 0, none⟩)) fr rfl rfl (by first | decide | simp) (x_fieldAddr fo35_0 rfl (fr.ev rfl) rfl) ?_
  clear fr a; intro a fr
  refine fx_val (v := .int .i64 m.kind) fr rfl rfl (by first | decide | simp) (x_load1 pl33 rfl (fr.ev rfl) (B4.cell 0 rfl)) ?_
  clear fr a; intro a fr
  refine fx_val (v := .func (.func f) #[.pointer (some ⟨b, 0, none⟩)] #[]) fr rfl rfl (by first | decide | simp) (x_lookup (k := .i64) (ok := false) (v := .func (.func f) #[.pointer (some ⟨b, 0, none⟩)] #[]) (b := true) Try.underlying115 Try.underlying33 rfl (fr.ev rfl) (fr.ev rfl) M20 (z := .nilFunc) (by kernel_rfl) hes) ?_
  clear fr a; intro a fr
  refine fx_val (v := .agg (msgE.arr m)) fr rfl rfl (by first | decide | simp) (x_loadE (E := msgE) ag35 rfl rfl (fr.ev rfl) (B4.rangeE msgE)) ?_
  clear fr a; intro a fr
  refine fx_callp rfl (x_callb (all := #[.pointer (some ⟨b, 0, none⟩), .agg (msgE.arr m)]) (vs := [.agg (msgE.arr m)]) rfl (fr.ev rfl) ⟨(fr.ev rfl), trivial⟩ rfl hfn hnm hbd) (hc _ hF H) ?_
  rintro _ w36 ⟨rfl, hN37⟩
  replace hB := hB.new hN37
  replace H := H.new hN37
  replace B4 := B4.new hN37
  replace B9 := B9.new hN37
  replace M20 := M20.new hN37
  replace hF := hF.trNew hN37
  refine fx_pt ?_
  refine fx_panD1 fr rfl (caught_stop B9 220) [.tmp 4, .cell 5 26] [.slice none 0 0, .int .i64 220] rfl ?_
  rintro w9 ⟨hE9, hO9⟩
  replace hB := hB.only hO9 (by first | exact ne_b_b6 | exact ne_b6_b.symm | (show ¬ b = b6; omega))
  replace H := H.only hO9 (ne1P ap_Fp_b6)
  replace B4 := B4.only hO9 (by first | exact ne_b1_b6 | exact ne_b6_b1.symm | (show ¬ b1 = b6; omega))
  replace M20 := M20.only hO9 (by first | exact ne_r17_b6 | exact ne_b6_r17.symm | (show ¬ r17 = b6; omega))
  replace hF := hF.loc hO9 (.inr g_b6)
  refine ⟨⟨rfl, ⟨_, rfl, x_loadV1 pl26 (hE9.cell 0 rfl)⟩, trivial⟩, ?_⟩
  exact ⟨_, rfl, rfl, H, hF⟩
end Go.Proofs.Ytflnlmibkbojcaa
namespace Go.Proofs.Ytflnlmibkbojcaa
open Go.RowKit
set_option maxRecDepth 100000 in
set_option maxHeartbeats 4000000 in
theorem appseq_c {w : World} {Fp : Nat → Prop} {b n : Nat} {ways : Int} {L : List Ln} (H : LinesAt w Fp b n ways L) {bn : Nat} (Bn : Blk w bn 79 #[.pointer (some ⟨b, 0, none⟩)]) (ap_Fp_bn : ¬ Fp bn) (hl : L.length ≤ 100000) : Calls Try.prog 81 #[.slice none 0 0, .func (.func 82) #[] #[.pointer (some ⟨bn, 0, none⟩)]] w (Ret fun v w' => ∃ A' cap', v = .slice A' (allL n L).length cap' ∧ Own lnE w' A' cap' (allL n L) ∧ (∀ g, inA A' g → w.heap.size ≤ g) ∧ New w w') := by
  have hxs := allL_len (H.bd).1 L
  have hF := Only.refl (fun _ => False) w
  refine fx_enterM Try.func81 rfl (N := (13, [])) (T := [(0, .slice none 0 0), (1, .func (.func 82) #[] #[.pointer (some ⟨bn, 0, none⟩)])]) rfl (show 2 ≤ 13 by decide) ⟨rfl, rfl, trivial⟩ fun a fr => ?_
  refine wp_seq ?_
  refine wp_region_lit ?_  -- region 0
  refine fx_new fr rfl rfl (by first | decide | simp) (x_box (cs := #[.slice none 0 0]) rfl (fr.ev rfl) rfl) ?_
  clear fr a
  intro b1 w2 hN3 B4 hb5 a fr
  have ap_Fp_b1 : ¬ Fp b1 := H.apart hb5
  have ne_bn_b1 : NE bn b1 := NE.mk (Nat.lt_of_lt_of_le Bn.lt hb5)
  have g_b1 := Nat.le_trans hF.size hb5
  replace H := H.new hN3
  replace Bn := Bn.new hN3
  replace hF := hF.trNew hN3
  refine fx_val (v := .slice none 0 0) fr rfl rfl (by first | decide | simp) (x_assign rfl rfl) ?_
  clear fr a; intro a fr
  refine wpList_nil ?_
  refine fx_next ?_
  refine wp_seq ?_
  refine wp_seq ?_
  refine wp_region_lit ?_  -- region 1
  refine fx_val (v := .func (.func 82) #[] #[.pointer (some ⟨bn, 0, none⟩)]) fr rfl rfl (by first | decide | simp) (x_move rfl (fr.ev rfl)) ?_
  clear fr a; intro a fr
  refine wpList_nil ?_
  refine fx_next ?_
  refine wp_block ?_
  have lt_b1 := B4.lt
  refine fx_range (xs := allL n L) (e := fun x : Ln => Value.agg (lnE.arr x)) fr rfl (show 7 < 13 by decide) (enters_of Try.func82 nm82 rfl) (SI := fun k => k = b1 ∨ w2.heap.size ≤ k) (fun _ h => .inr h) (all_stops H Bn (fun h => h.elim (by first | exact ne_bn_b1 | exact ne_b1_bn.symm | (show ¬ bn = b1; omega)) (fun h => by have := Bn.lt; omega)) (fun g hg => (fun h => h.elim ((ne1P ap_Fp_b1) g hg) (fun h => by have := H.lt hg; omega)))) (fun pre W => ∃ A : Option Addr, ∃ cap : Nat, Blk W b1 40 #[.slice A pre.length cap] ∧ Own lnE W A cap pre ∧ Only (fun k => k = b1) w2 W ∧ ∀ g, inA A g → w2.heap.size ≤ g) (fun c pre W => False) (fun x a' W => ∃ b6 : Nat, Blk W b6 39 (lnE.arr x) ∧ w2.heap.size ≤ b6 ∧ Fr (13, []) [(0, .slice none 0 0), (1, .func (.func 82) #[] #[.pointer (some ⟨bn, 0, none⟩)]), (2, .pointer (some ⟨b1, 0, none⟩)), (4, .slice none 0 0), (6, .func (.func 82) #[] #[.pointer (some ⟨bn, 0, none⟩)]), (7, .agg (lnE.arr x)), (5, .pointer (some ⟨b6, 0, none⟩))] a') ?_ ?_ ?_ ?_ ⟨none, 0, B4, Own.nil, Only.refl _ _, (fun g hg => absurd hg (apart_none g))⟩ ?_ ?_ ?_ ?_
  · rintro pre W W' ⟨A, cap, Bo, Oc, hC, hg_A⟩ hT; exact ⟨A, cap, Bo.turn hT, Oc.turn hT, hC.turn hT (Nat.le_refl _), hg_A⟩
  · exact fun _ _ _ _ h _ => h.elim
  · rintro x a' _ W W' ⟨b6, B9, h_b6, hf⟩ hT; exact ⟨b6, B9.turn hT, h_b6, hf⟩
  · rintro pre W W' ⟨A, cap, Bo, Oc, hC, hg_A⟩ hN; exact ⟨A, cap, Bo.new hN, Oc.new hN, hC.trNew hN, hg_A⟩
  · skip
    rintro l pre x W K ⟨A, cap, Bo, Oc, hC, hg_A⟩ hK a fr
    have hF := Only.refl (fun _ => False) W
    refine fxr_region (by kernel_rfl) (by rintro ⟨_, _, h⟩; exact h) ?_  -- region 2
    refine fx_new fr rfl rfl (by first | decide | simp) (x_alloc (z := .agg (#[.int .u32 0, .int .i64 0, .int .u8 0, .int .u8 0, .int .u8 0, .int .u8 0, .int .u8 0, .int .u8 0, .int .u8 0, .int .u8 0, .int .u8 0, .int .u8 0, .int .u8 0, .int .u8 0, .int .u8 0, .int .u8 0, .int .u8 0, .int .u8 0])) (cs := lnE.arr ln0) rfl (by kernel_rfl) rfl) ?_
    clear fr a
    intro b6 w7 hN8 B9 hb10 a fr
    have g_b6 := Nat.le_trans hF.size hb10
    replace hF := hF.trNew hN8
    refine fx_storeS sz39 rfl rfl rfl (fr.ev rfl) (fr.ev rfl) (lnE.all _) B9 (lnE.size _) (lnE.size _) fun w11 hO12 hBq => ?_
    replace hF := hF.loc hO12 (.inr g_b6)
    replace B9 := hBq
    clear hBq
    refine wpList_nil ?_
    refine hK _ _ hF ⟨b6, B9, Nat.le_trans hC.size g_b6, fr.sub ⟨rfl, rfl, rfl, rfl, rfl, rfl, rfl, trivial⟩⟩
  · skip
    rintro lq pre x a W ⟨A, cap, Bo, Oc, hC, hg_A⟩ ⟨b6, B9, h_b6, fr⟩ hlen
    have ne_b1_b6 : NE b1 b6 := NE.mk (Nat.lt_of_lt_of_le lt_b1 h_b6)
    have ap_A_b1 : Apart A b1 := fun h => by have := hg_A _ h; omega
    have cl_b1 := Bo.cells
    have cl_A := fun g (hg : inA A g) => Oc.cells hg
    have hF := Only.refl (fun k => k = b1 ∨ inA A k) W
    have gA_A : ∀ g, inA A g → (fun k => k = b1 ∨ inA A k) g ∨ W.heap.size ≤ g := fun g hg => .inl (Or.inr (hg))
    have hcl : ∀ k, k < W.heap.size → (fun k => k = b1 ∨ inA A k) k → (fun k => k = b1 ∨ w2.heap.size ≤ k) k ∧ ∃ o : Obj, W.heap[k]? = some o ∧ o.isCells = true := by
      rintro k _ (rfl | hs)
      · exact ⟨Or.inl rfl, cl_b1⟩
      · exact ⟨Or.inr (hg_A k hs), cl_A k hs⟩
    have hSS : ∀ k, k < w2.heap.size → (fun k => k = b1 ∨ inA A k) k → (fun k => k = b1) k := by
      rintro k hk (rfl | hs)
      · exact rfl
      · have := hg_A k hs; omega
    have hxl : pre.length ≤ 100000 := by have := hxs; omega
    refine wpIn_block ?_
    refine fxr_region (by kernel_rfl) (by rintro ⟨_, _, h⟩; exact h) ?_  -- region 3
    refine fx_val (v := .slice A pre.length cap) fr rfl rfl (by first | decide | simp) (x_load1 pl40 rfl (fr.ev rfl) (Bo.cell 0 rfl)) ?_
    clear fr a; intro a fr
    refine fx_val (v := .agg (lnE.arr x)) fr rfl rfl (by first | decide | simp) (x_loadE (E := lnE) ag39 rfl rfl (fr.ev rfl) (B9.rangeE lnE)) ?_
    clear fr a; intro a fr
    refine fx_build1 (E := lnE) (p := x) elLn (by decide) fr rfl rfl (by decide) rfl (fr.ev rfl) ?_
    clear fr a
    intro A13 w14 hN15 O16 hA17 a fr
    have ap_A13_b1 : Apart A13 b1 := new_apart hA17 Bo.lt
    have ap2_A_A13 : Apart2 A A13 := (new_apart2 hA17 fun _ hg => Oc.lt hg).symm
    have ap_A13_b6 : Apart A13 b6 := new_apart hA17 B9.lt
    have gA_A13 := gA_new hF hA17
    replace Bo := Bo.new hN15
    replace Oc := Oc.new hN15
    replace B9 := B9.new hN15
    replace hF := hF.trNew hN15
    refine fx_append (E := lnE) (l := pre) (l' := [x]) elLn fr rfl rfl (by decide) rfl (fr.ev rfl) (fr.ev rfl) (by first | rfl | (simp; done) | (simp; omega)) (by first | rfl | (simp; done) | (simp; omega)) Oc O16.view (by first | omega | (simp only [List.length_append, List.length_cons, List.length_nil]; omega)) (by unfold maxLen; first | omega | (simp; omega)) ?_
    clear fr a
    intro A18 cap19 w20 O21 hO22 mv23 a fr
    have ap_A18_b1 : Apart A18 b1 := moved_apart mv23 ap_A_b1 Bo.lt
    have ap2_A18_A13 : Apart2 A18 A13 := moved_apart2 mv23 ap2_A_A13 fun _ hg => O16.lt hg
    have gA_A18 := gA_moved hF mv23 gA_A
    replace Bo := Bo.only hO22 ap_A_b1
    replace O16 := O16.only hO22 (fun g h1 h2 => ap2_A_A13.symm g h1 h2)
    replace hF := hF.locA hO22 gA_A
    clear Oc
    refine fx_store1 sz40 rfl rfl rfl (fr.ev rfl) (fr.ev rfl) rfl Bo (show 0 < 1 by decide) (cs' := #[.slice A18 ((pre ++ ([x])).length) cap19]) rfl fun w24 hO25 hBq => ?_
    replace O16 := O16.only hO25 (Apart.ne1 ap_A13_b1)
    replace O21 := O21.only hO25 (Apart.ne1 ap_A18_b1)
    replace hF := hF.loc hO25 (.inl (Or.inl rfl))
    replace Bo := hBq
    clear hBq
    refine wpList_nil ?_
    refine fx_blk ?_
    exact ⟨⟨_, hF, hcl⟩, A18, cap19, Bo, O21, hC.trans hF hSS, (fun g hg => (gA_A18 g hg).elim (fun h => by rcases h with rfl | hs; all_goals first | exact hg_A g hs | exact absurd hg (by first | exact ap_A18_b1 | (intro h; exact h))) (fun h => Nat.le_trans hC.size h))⟩
  · skip
    rintro D26 W1 hD ⟨A, cap, Bo, Oc, hC, hg_A⟩ hD_D26 a fr
    have g_D26 := Nat.le_trans hF.size hD
    have ap_A_b1 : Apart A b1 := fun h => by have := hg_A _ h; have := lt_b1; omega
    have ap2_Fp_A : ∀ k, Fp k → inA A k → False := symP (new_apart2P hg_A fun _ hg => H.lt hg)
    have ap_A_bn : Apart A bn := new_apart hg_A Bn.lt
    have gA_A := gA_new hF hg_A
    replace H := H.only hC (ne1P ap_Fp_b1)
    replace Bn := Bn.only hC (by first | exact ne_bn_b1 | exact ne_b1_bn.symm | (show ¬ bn = b1; omega))
    replace hF := hF.loc hC (.inr g_b1)
    have ne_bn_D26 := Bn.mark hD_D26
    have ne_b1_D26 := Bo.mark hD_D26
    have ap_A_D26 := Oc.mark hD_D26
    refine fx_blk ?_
    refine fx_next ?_
    refine wp_seq ?_
    refine wp_region_lit ?_  -- region 4
    refine fx_val (v := .slice A ((allL n L).length) cap) fr rfl rfl (by first | decide | simp) (x_load1 pl40 rfl (fr.ev rfl) (Bo.cell 0 rfl)) ?_
    clear fr a; intro a fr
    refine fx_val (v := .slice A ((allL n L).length) cap) fr rfl rfl (by first | decide | simp) (x_assign rfl (fr.ev rfl)) ?_
    clear fr a; intro a fr
    refine wpList_nil ?_
    refine fx_next ?_
    refine wp_ret ?_
    refine fx_retM1 fr g_D26 hD_D26 [.tmp 4] [.slice A ((allL n L).length) cap] rfl rfl ?_
    intro wE hT
    replace H := H.turn hT
    replace Bn := Bn.turn hT
    replace Bo := Bo.turn hT
    replace Oc := Oc.turn hT
    replace hF := hF.turn hT (Nat.le_refl _)
    refine ⟨⟨rfl, trivial⟩, ?_⟩
    exact ⟨_, rfl, A, cap, rfl, Oc, (fun g hg => (gA_A g hg).resolve_left (fun h => h)), hF⟩
  · skip
    exact fun _ _ _ _ _ _ h _ _ _ => h.elim
set_option maxRecDepth 100000 in
set_option maxHeartbeats 4000000 in
theorem collect_c {w : World} {Fp : Nat → Prop} {b n : Nat} {ways : Int} {L : List Ln} (H : LinesAt w Fp b n ways L) {bn : Nat} (Bn : Blk w bn 79 #[.pointer (some ⟨b, 0, none⟩)]) (ap_Fp_bn : ¬ Fp bn) (hl : L.length ≤ 100000) : Calls Try.prog 68 #[.func (.func 82) #[] #[.pointer (some ⟨bn, 0, none⟩)]] w (Ret fun v w' => ∃ A' cap', v = .slice A' (allL n L).length cap' ∧ Own lnE w' A' cap' (allL n L) ∧ (∀ g, inA A' g → w.heap.size ≤ g) ∧ New w w') := by
 have hF := Only.refl (fun _ => False) w
 refine Zen 5 Try.func68 ?_
 refine Zsr ?_
 refine Za ?_
 refine Znn ?_
 refine Zsr ?_
 refine Zm ?_
 refine Zk (args := #[.slice none 0 0, .func (.func 82) #[] #[.pointer (some ⟨bn, 0, none⟩)]]) cf81 (appseq_c H Bn ap_Fp_bn (by omega)) ?_
 rintro v w5 ⟨A1, cap2, rfl, O3, hA4, hN6⟩
 have gA_A1 := gA_new hF hA4
 refine Za ?_
 refine Znn ?_
 refine Zrt ?_
 refine Zre rfl [_] ⟨rfl, trivial⟩ ?_
 replace hF := hF.trNew hN6
 exact ⟨_, rfl, A1, cap2, rfl, O3, (fun g hg => (gA_A1 g hg).resolve_left (fun h => h)), hF⟩
set_option maxRecDepth 100000 in
set_option maxHeartbeats 4000000 in
theorem clines_c {w : World} {b lb : Nat} {id : Int} {pa pg : Value} {FpL : Nat → Prop} {n : Nat} {ways : Int} {L : List Ln} (hB : Blk w b 83 #[.int .i64 id, .pointer (some ⟨lb, 0, none⟩), pa, pg]) (hL : LinesAt w FpL lb n ways L) (ap_FpL_b : ¬ FpL b) (hl : L.length ≤ 100000) : Calls Try.prog 30 #[.pointer (some ⟨b, 0, none⟩)] w (Ret fun v w' => ∃ A' cap', v = .slice A' (allL n L).length cap' ∧ Own lnE w' A' cap' (allL n L) ∧ (∀ g, inA A' g → w.heap.size ≤ g) ∧ New w w') := by
 obtain ⟨hn1, hn2, hw1, hw2⟩ := hL.bd
 have hF := Only.refl (fun _ => False) w
 refine Zen 11 Try.func30 ?_
 refine Zsr ?_
 refine Za ?_
 refine Znn ?_
 refine Zsq ?_
 refine Zsr ?_
 refine Zm ?_
 refine Zk cf43 (cnone_c hB) ?_
 rintro v w9 ⟨rfl, hw9⟩
 obtain rfl := hw9.symm
 refine Znn ?_
 refine Zcf ?_
 refine Zsk ?_
 refine Znx ?_
 refine Zsr ?_
 refine Zm ?_
 refine Zn ?_
 refine Zf fo83_1 ?_
 refine Zd pl79 (hB.cell 1 rfl) ?_
 refine Zk cf69 (all_c hL) ?_
 rintro v w11 ⟨bn3, b5, Fp6, rfl, Bn4, H7, hb8, hf9, hx10, hN12⟩
 have ap_Fp6_bn3 : ¬ Fp6 bn3 := hx10
 refine Zk (args := #[.func (.func 82) #[] #[.pointer (some ⟨bn3, 0, none⟩)]]) cf68 (collect_c H7 Bn4 ap_Fp6_bn3 (by omega)) ?_
 rintro v w17 ⟨A13, cap14, rfl, O15, hA16, hN18⟩
 replace hF := hF.trNew hN12
 have gA_A13 := gA_new hF hA16
 refine Za ?_
 refine Znn ?_
 refine Zrt ?_
 refine Zre rfl [_] ⟨rfl, trivial⟩ ?_
 replace hF := hF.trNew hN18
 exact ⟨_, rfl, A13, cap14, rfl, O15, (fun g hg => (gA_A13 g hg).resolve_left (fun h => h)), hF⟩
set_option maxRecDepth 100000 in
set_option maxHeartbeats 4000000 in
theorem asked_none {w : World} {Fp : Nat → Prop} {b : Nat} {id : Int} {n : Nat} {ways : Int} {L : List Ln} {giv : Option Ln} (H : CacheAt w Fp b ⟨id, n, ways, L, none, giv⟩)  : Calls Try.prog 32 #[.pointer (some ⟨b, 0, none⟩)] w (Ret fun v w' => v = .tuple #[.int .u32 0, .bool false, .bool false] ∧ New w w') := by
 obtain ⟨lb, FpL, pa, pg, FpA, FpG, hB, hL, hA, hG, hP⟩ := H
 dsimp only at hB hL hA hG
 obtain ⟨hn1, hn2, hw1, hw2⟩ := hL.bd
 have hF := Only.refl (fun _ => False) w
 refine Zen 28 Try.func32 ?_
 refine Zsr ?_
 refine Za ?_
 refine Za ?_
 refine Za ?_
 refine Znn ?_
 refine Zsq ?_
 refine Zsq ?_
 obtain ⟨rfl, hA0⟩ := hA
 refine Zrg ?_
 refine Zm ?_
 refine Zk cf43 (cnone_c hB) ?_
 rintro v w9 ⟨rfl, hw9⟩
 obtain rfl := hw9.symm
 refine Zm ?_
 refine Zm ?_
 refine Zn ?_
 refine Zf fo83_2 ?_
 refine Zd pl80 (hB.cell 2 rfl) ?_
 refine Zv (.bool true) (fun _ fr => x_peql Try.underlying80 rfl (fr.ev rfl) rfl rfl) ?_
 refine Zpf ?_
 refine Znn ?_
 refine Zct ?_
 refine Zsr ?_
 refine Za ?_
 refine Za ?_
 refine Za ?_
 refine Znn ?_
 refine Zrt ?_
 refine Zr1 ?_
 refine Zre rfl [_, _, _] ⟨rfl, rfl, rfl, trivial⟩ ?_
 exact ⟨_, rfl, rfl, hF⟩
set_option maxRecDepth 100000 in
set_option maxHeartbeats 4000000 in
theorem asked_some {w : World} {Fp : Nat → Prop} {b : Nat} {id : Int} {n : Nat} {ways : Int} {L : List Ln} {al : Int} {aw : Bool} {giv : Option Ln} (H : CacheAt w Fp b ⟨id, n, ways, L, (some (al, aw)), giv⟩)  : Calls Try.prog 32 #[.pointer (some ⟨b, 0, none⟩)] w (Ret fun v w' => v = .tuple #[.int .u32 al, .bool aw, .bool true] ∧ New w w') := by
 obtain ⟨lb, FpL, pa, pg, FpA, FpG, hB, hL, hA, hG, hP⟩ := H
 dsimp only at hB hL hA hG
 obtain ⟨hn1, hn2, hw1, hw2⟩ := hL.bd
 have gA_FpA := fun g (hg : FpA g) => (Or.inl trivial : True ∨ w.heap.size ≤ g)
 have hF := Only.refl (fun _ => False) w
 refine Zen 28 Try.func32 ?_
 refine Zsr ?_
 refine Za ?_
 refine Za ?_
 refine Za ?_
 refine Znn ?_
 refine Zsq ?_
 refine Zsq ?_
 obtain ⟨ba, rfl, hAB, hAF, hal⟩ := hA
 have gi_ba := gA_FpA ba ((hAF ba).2 rfl)
 refine Zrg ?_
 refine Zm ?_
 refine Zk cf43 (cnone_c hB) ?_
 rintro v w9 ⟨rfl, hw9⟩
 obtain rfl := hw9.symm
 refine Zm ?_
 refine Zm ?_
 refine Zn ?_
 refine Zf fo83_2 ?_
 refine Zd pl80 (hB.cell 2 rfl) ?_
 refine Zv (.bool false) (fun _ fr => x_peql Try.underlying80 rfl (fr.ev rfl) rfl rfl) ?_
 refine Zpf ?_
 refine Znn ?_
 refine Zcf ?_
 refine Zsk ?_
 refine Znx ?_
 refine Zsq ?_
 refine ZhT (n := 15) 15 (fun w => Blk w b 83 #[.int .i64 id, .pointer (some ⟨lb, 0, none⟩), .pointer (some ⟨ba, 0, none⟩), pg] ∧ Blk w ba 109 (#[.int .u32 al, .bool aw]) ∧ True) ?_
 intro w3 hN4
 replace hB := hB.new hN4
 replace hAB := hAB.new hN4
 have hS9 := And.intro hB (And.intro hAB trivial)
 refine Zhm 0 hS9 ?_
 refine Zhc 1 hS9 ?_
 refine Zhf 2 fo83_2 hS9 ?_
 refine Zhl 3 pl80 hS9 (fun _ ⟨hB, _⟩ => (hB.cell 2 rfl)) ?_
 refine Zhc 4 hS9 ?_
 refine Zhf 5 fo109_0 hS9 ?_
 refine Zhl (v := .int .u32 al) 6 pl32 hS9 (fun _ ⟨_, hAB, _⟩ => (hAB.cell 0 rfl)) ?_
 refine Zhm 7 hS9 ?_
 refine Zhc 8 hS9 ?_
 refine Zhf 9 fo83_2 hS9 ?_
 refine Zhl 10 pl80 hS9 (fun _ ⟨hB, _⟩ => (hB.cell 2 rfl)) ?_
 refine Zhc 11 hS9 ?_
 refine Zhf 12 fo109_1 hS9 ?_
 refine Zhl (v := .bool aw) 13 pl4 hS9 (fun _ ⟨_, hAB, _⟩ => (hAB.cell 1 rfl)) ?_
 refine Zha 14 hS9 ?_
 refine Zhn ?_
 refine Ztl ?_
 refine Za ?_
 refine Za ?_
 refine Znn ?_
 refine Zrt ?_
 refine Zre rfl [_, _, _] ⟨rfl, rfl, rfl, trivial⟩ ?_
 replace hF := hF.trNew hN4
 exact ⟨_, rfl, rfl, hF⟩
set_option maxRecDepth 100000 in
set_option maxHeartbeats 4000000 in
theorem given_none {w : World} {Fp : Nat → Prop} {b : Nat} {id : Int} {n : Nat} {ways : Int} {L : List Ln} {ask : Option (Int × Bool)} (H : CacheAt w Fp b ⟨id, n, ways, L, ask, none⟩)  : Calls Try.prog 33 #[.pointer (some ⟨b, 0, none⟩)] w (Ret fun v w' => v = .tuple #[.agg (lnE.arr ln0), .bool false] ∧ New w w') := by
 obtain ⟨lb, FpL, pa, pg, FpA, FpG, hB, hL, hA, hG, hP⟩ := H
 dsimp only at hB hL hA hG
 obtain ⟨hn1, hn2, hw1, hw2⟩ := hL.bd
 have hF := Only.refl (fun _ => False) w
 refine Zen 20 Try.func33 ?_
 refine Zsr ?_
 refine Zna (z := zv1) (cs := lnE.arr ln0) (by kernel_rfl) fun b1 w2 hN3 B4 hb5 => ?_
 have g_b1 := Nat.le_trans hF.size hb5
 refine Za ?_
 refine Znn ?_
 refine Zsq ?_
 refine Zsq ?_
 replace hG := hG.new hN3
 obtain ⟨rfl, hG0⟩ := hG
 refine Zrg ?_
 refine Zm ?_
 replace hB := hB.new hN3
 refine Zk cf43 (cnone_c hB) ?_
 rintro v w9 ⟨rfl, hw9⟩
 obtain rfl := hw9.symm
 refine Zm ?_
 refine Zm ?_
 refine Zn ?_
 refine Zf fo83_3 ?_
 refine Zd pl81 (hB.cell 3 rfl) ?_
 refine Zv (.bool true) (fun _ fr => x_peql Try.underlying81 rfl (fr.ev rfl) rfl rfl) ?_
 refine Zpf ?_
 refine Znn ?_
 refine Zct ?_
 refine Zsr ?_
 refine Zv (.agg (lnE.arr ln0)) (fun _ _ => x_build (cells := lnE.arr ln0) rfl (by kernel_rfl)) ?_
 refine ZsS sz39 (lnE.all _) B4 (lnE.size _) (lnE.size _) fun w8 hO9 hBq => ?_
 replace B4 := hBq
 clear hBq
 refine Za ?_
 refine Znn ?_
 refine Zrt ?_
 refine Zr1 ?_
 refine Zre rfl [_, _] ⟨⟨_, rfl, loadV_E (E := lnE) ag39 rfl (B4.rangeE lnE)⟩, rfl, trivial⟩ ?_
 replace hF := (hF.trNew hN3).loc hO9 (.inr g_b1)
 exact ⟨_, rfl, rfl, hF⟩
set_option maxRecDepth 100000 in
set_option maxHeartbeats 4000000 in
theorem given_some {w : World} {Fp : Nat → Prop} {b : Nat} {id : Int} {n : Nat} {ways : Int} {L : List Ln} {ask : Option (Int × Bool)} {gx : Ln} (H : CacheAt w Fp b ⟨id, n, ways, L, ask, (some gx)⟩)  : Calls Try.prog 33 #[.pointer (some ⟨b, 0, none⟩)] w (Ret fun v w' => v = .tuple #[.agg (lnE.arr gx), .bool true] ∧ New w w') := by
 obtain ⟨lb, FpL, pa, pg, FpA, FpG, hB, hL, hA, hG, hP⟩ := H
 dsimp only at hB hL hA hG
 obtain ⟨hn1, hn2, hw1, hw2⟩ := hL.bd
 have gA_FpG := fun g (hg : FpG g) => (Or.inl trivial : True ∨ w.heap.size ≤ g)
 have hF := Only.refl (fun _ => False) w
 refine Zen 20 Try.func33 ?_
 refine Zsr ?_
 refine Zna (z := zv1) (cs := lnE.arr ln0) (by kernel_rfl) fun b1 w2 hN3 B4 hb5 => ?_
 have g_b1 := Nat.le_trans hF.size hb5
 refine Za ?_
 refine Znn ?_
 refine Zsq ?_
 refine Zsq ?_
 replace hG := hG.new hN3
 obtain ⟨bg, rfl, hGB, hGF⟩ := hG
 have gi_bg := gA_FpG bg ((hGF bg).2 rfl)
 refine Zrg ?_
 refine Zm ?_
 replace hB := hB.new hN3
 refine Zk cf43 (cnone_c hB) ?_
 rintro v w9 ⟨rfl, hw9⟩
 obtain rfl := hw9.symm
 refine Zm ?_
 refine Zm ?_
 refine Zn ?_
 refine Zf fo83_3 ?_
 refine Zd pl81 (hB.cell 3 rfl) ?_
 refine Zv (.bool false) (fun _ fr => x_peql Try.underlying81 rfl (fr.ev rfl) rfl rfl) ?_
 refine Zpf ?_
 refine Znn ?_
 refine Zcf ?_
 refine Zsk ?_
 refine Znx ?_
 refine Zsr ?_
 refine Zm ?_
 refine Zn ?_
 refine Zf fo83_3 ?_
 refine Zd pl81 (hB.cell 3 rfl) ?_
 refine Zn ?_
 refine ZE lnE ag39 (hGB.rangeE lnE) ?_
 refine ZsS sz39 (lnE.all _) B4 (lnE.size _) (lnE.size _) fun w8 hO9 hBq => ?_
 replace B4 := hBq
 clear hBq
 refine Za ?_
 refine Znn ?_
 refine Zrt ?_
 refine Zre rfl [_, _] ⟨⟨_, rfl, loadV_E (E := lnE) ag39 rfl (B4.rangeE lnE)⟩, rfl, trivial⟩ ?_
 replace hF := (hF.trNew hN3).loc hO9 (.inr g_b1)
 exact ⟨_, rfl, rfl, hF⟩
set_option maxRecDepth 100000 in
set_option maxHeartbeats 4000000 in
theorem cnew_yes (id : Int) (n : Nat) (ways : Int) (h1 : ¬ id < 0) (h2 : ¬ 4 ≤ id) (hr : rightB ((n : Nat) : Int) ways = true) (w : World) : Calls Try.prog 12 #[.int .i64 id, .int .i64 ((n : Nat) : Int), .int .i64 ways] w (Ret fun v w' => ∃ b Fp, v = .tuple #[.pointer (some ⟨b, 0, none⟩), .int .i64 0] ∧ CacheAt w' Fp b ⟨id, n, ways, [], none, none⟩ ∧ (∀ g, Fp g → w.heap.size ≤ g) ∧ New w w') := by
 have hF := Only.refl (fun _ => False) w
 refine Zen 30 Try.func12 ?_
 refine Zsr ?_
 refine Za ?_
 refine Za ?_
 refine Znn ?_
 refine Zsr ?_
 refine Zm ?_
 refine Zm ?_
 refine Zk cf42 (new_yes n ways _ hr) ?_
 rintro v w5 ⟨b1, Fp2, rfl, H3, hb4, hN6⟩
 have gA_Fp2 := gA_newP hF hb4
 refine Zm ?_
 refine Zt ?_
 refine Zt ?_
 refine Za ?_
 refine Za ?_
 refine Znn ?_
 refine Zsq ?_
 refine Zsr ?_
 refine Zm ?_
 refine Zv (.bool false) (fun _ fr => x_neq rfl (fr.ev rfl) rfl rfl) ?_
 refine Zm ?_
 refine Zm ?_
 refine Zv (.bool false) (fun _ fr => x_lss rfl (fr.ev rfl) rfl (decide_eq_false h1)) ?_
 refine Zpf ?_
 refine Zm ?_
 refine Zm ?_
 refine Zv (.bool false) (fun _ fr => x_geq rfl (fr.ev rfl) rfl (decide_eq_false h2)) ?_
 refine Zpf ?_
 refine Znn ?_
 refine Zcf ?_
 refine Zsk ?_
 refine Znx ?_
 refine Zsr ?_
 refine Zm ?_
 refine Zm ?_
 refine Zv (.agg (#[.int .i64 id, .pointer (some ⟨b1, 0, none⟩), .pointer none, .pointer none])) (fun a fr => x_build (cells := #[.int .i64 id, .pointer (some ⟨b1, 0, none⟩), .pointer none, .pointer none]) rfl (by simp only [List.map_toArray, List.map_cons, List.map_nil, show a.eval (.tmp 26) = .int .i64 id from fr.ev rfl, show a.eval (.tmp 27) = .pointer (some ⟨b1, 0, none⟩) from fr.ev rfl]; kernel_rfl)) ?_
 refine Znb (cs := #[.int .i64 id, .pointer (some ⟨b1, 0, none⟩), .pointer none, .pointer none]) fun b7 w8 hN9 B10 hb11 => ?_
 have ap_Fp2_b7 : ¬ Fp2 b7 := H3.apart hb11
 replace hF := hF.trNew hN6
 have g_b7 := Nat.le_trans hF.size hb11
 refine Za ?_
 refine Za ?_
 refine Znn ?_
 refine Zrt ?_
 refine Zre rfl [_, _] ⟨rfl, rfl, trivial⟩ ?_
 replace H3 := H3.new hN9
 replace hF := hF.trNew hN9
 exact ⟨_, rfl, b7, (fun k => k = b7 ∨ Fp2 k ∨ (fun _ => False) k ∨ (fun _ => False) k), rfl, ⟨_, Fp2, _, _, (fun _ => False), (fun _ => False), B10, H3, ⟨rfl, fun _ h => h⟩, ⟨rfl, fun _ h => h⟩, ⟨ap_Fp2_b7, fun h => h, fun h => h, fun _ _ h => h, fun _ _ h => h, fun _ h => h.elim, fun _ => Iff.rfl⟩⟩, (fun g hg => hg.elim (fun e => by rw [e]; exact g_b7) fun h => h.elim (fun h => (gA_Fp2 g h).resolve_left (fun h => h)) fun h => h.elim (fun h => h.elim) (fun h => h.elim)), hF⟩
set_option maxRecDepth 100000 in
set_option maxHeartbeats 4000000 in
theorem cnew_no (id sets ways : Int) (hr : rightB sets ways = false) (w : World) : Calls Try.prog 12 #[.int .i64 id, .int .i64 sets, .int .i64 ways] w (Ret fun v w' => v = .tuple #[.pointer none, .int .i64 2] ∧ New w w') := by
 have hF := Only.refl (fun _ => False) w
 refine Zen 30 Try.func12 ?_
 refine Zsr ?_
 refine Za ?_
 refine Za ?_
 refine Znn ?_
 refine Zsr ?_
 refine Zm ?_
 refine Zm ?_
 refine Zk cf42 (new_no sets ways _ hr) ?_
 rintro v w5 ⟨rfl, hN6⟩
 refine Zm ?_
 refine Zt ?_
 refine Zt ?_
 refine Za ?_
 refine Za ?_
 refine Znn ?_
 refine Zsq ?_
 refine Zsr ?_
 refine Zm ?_
 refine Zv (.bool true) (fun _ fr => x_neq rfl (fr.ev rfl) rfl rfl) ?_
 refine Zm ?_
 refine Zs ?_
 refine Zs ?_
 refine Zpt ?_
 refine Zm ?_
 refine Zs ?_
 refine Zs ?_
 refine Zpt ?_
 refine Znn ?_
 refine Zct ?_
 refine Zsr ?_
 refine Za ?_
 refine Za ?_
 refine Znn ?_
 refine Zrt ?_
 refine Zr1 ?_
 refine Zre rfl [_, _] ⟨rfl, rfl, trivial⟩ ?_
 replace hF := hF.trNew hN6
 exact ⟨_, rfl, rfl, hF⟩
set_option maxRecDepth 100000 in
set_option maxHeartbeats 4000000 in
theorem cnew_lo (id : Int) (n : Nat) (ways : Int) (h1 : id < 0) (hr : rightB ((n : Nat) : Int) ways = true) (w : World) : Calls Try.prog 12 #[.int .i64 id, .int .i64 ((n : Nat) : Int), .int .i64 ways] w (Ret fun v w' => v = .tuple #[.pointer none, .int .i64 2] ∧ New w w') := by
 have hF := Only.refl (fun _ => False) w
 refine Zen 30 Try.func12 ?_
 refine Zsr ?_
 refine Za ?_
 refine Za ?_
 refine Znn ?_
 refine Zsr ?_
 refine Zm ?_
 refine Zm ?_
 refine Zk cf42 (new_yes n ways _ hr) ?_
 rintro v w5 ⟨b1, Fp2, rfl, H3, hb4, hN6⟩
 refine Zm ?_
 refine Zt ?_
 refine Zt ?_
 refine Za ?_
 refine Za ?_
 refine Znn ?_
 refine Zsq ?_
 refine Zsr ?_
 refine Zm ?_
 refine Zv (.bool false) (fun _ fr => x_neq rfl (fr.ev rfl) rfl rfl) ?_
 refine Zm ?_
 refine Zm ?_
 refine Zv (.bool true) (fun _ fr => x_lss rfl (fr.ev rfl) rfl (decide_eq_true h1)) ?_
 refine Zpf ?_
 refine Zm ?_
 refine Zs ?_
 refine Zs ?_
 refine Zpt ?_
 refine Znn ?_
 refine Zct ?_
 refine Zsr ?_
 refine Za ?_
 refine Za ?_
 refine Znn ?_
 refine Zrt ?_
 refine Zr1 ?_
 refine Zre rfl [_, _] ⟨rfl, rfl, trivial⟩ ?_
 replace hF := hF.trNew hN6
 exact ⟨_, rfl, rfl, hF⟩
set_option maxRecDepth 100000 in
set_option maxHeartbeats 4000000 in
theorem cnew_hi (id : Int) (n : Nat) (ways : Int) (h1 : ¬ id < 0) (h2 : 4 ≤ id) (hr : rightB ((n : Nat) : Int) ways = true) (w : World) : Calls Try.prog 12 #[.int .i64 id, .int .i64 ((n : Nat) : Int), .int .i64 ways] w (Ret fun v w' => v = .tuple #[.pointer none, .int .i64 2] ∧ New w w') := by
 have hF := Only.refl (fun _ => False) w
 refine Zen 30 Try.func12 ?_
 refine Zsr ?_
 refine Za ?_
 refine Za ?_
 refine Znn ?_
 refine Zsr ?_
 refine Zm ?_
 refine Zm ?_
 refine Zk cf42 (new_yes n ways _ hr) ?_
 rintro v w5 ⟨b1, Fp2, rfl, H3, hb4, hN6⟩
 refine Zm ?_
 refine Zt ?_
 refine Zt ?_
 refine Za ?_
 refine Za ?_
 refine Znn ?_
 refine Zsq ?_
 refine Zsr ?_
 refine Zm ?_
 refine Zv (.bool false) (fun _ fr => x_neq rfl (fr.ev rfl) rfl rfl) ?_
 refine Zm ?_
 refine Zm ?_
 refine Zv (.bool false) (fun _ fr => x_lss rfl (fr.ev rfl) rfl (decide_eq_false h1)) ?_
 refine Zpf ?_
 refine Zm ?_
 refine Zm ?_
 refine Zv (.bool true) (fun _ fr => x_geq rfl (fr.ev rfl) rfl (decide_eq_true h2)) ?_
 refine Zpf ?_
 refine Znn ?_
 refine Zct ?_
 refine Zsr ?_
 refine Za ?_
 refine Za ?_
 refine Znn ?_
 refine Zrt ?_
 refine Zr1 ?_
 refine Zre rfl [_, _] ⟨rfl, rfl, trivial⟩ ?_
 replace hF := hF.trNew hN6
 exact ⟨_, rfl, rfl, hF⟩
end Go.Proofs.Ytflnlmibkbojcaa
namespace Go.Proofs.Ytflnlmibkbojcaa
open Go.RowKit
set_option maxRecDepth 100000 in
set_option maxHeartbeats 4000000 in
theorem ask_b1 {w : World} {Fp : Nat → Prop} {b : Nat} {id : Int} {n : Nat} {ways : Int} {L : List Ln} {al : Int} {aw : Bool} {giv : Option Ln} (H : CacheAt w Fp b ⟨id, n, ways, L, (some (al, aw)), giv⟩) (line : Int) (hln : 0 ≤ line ∧ line < 4294967296) (pick : Int) (wr : Bool) : Calls Try.prog 13 #[.pointer (some ⟨b, 0, none⟩), .int .u32 line, .bool wr, .int .i64 pick] w (Ret fun v w' => v = .tuple #[.slice none 0 0, .int .i64 230] ∧ New w w') := by
 obtain ⟨lb, FpL, pa, pg, FpA, FpG, hB, hL, hA, hG, hP⟩ := H
 dsimp only at hB hL hA hG
 have ap_FpL_b := hP.lb
 obtain ⟨hn1, hn2, hw1, hw2⟩ := hL.bd
 have gA_FpA := fun g (hg : FpA g) => (Or.inl trivial : True ∨ w.heap.size ≤ g)
 have hF := Only.refl (fun _ => False) w
 refine Zen 91 Try.func13 ?_
 refine Zsr ?_
 refine Za ?_
 refine Za ?_
 refine Znn ?_
 refine Zsq ?_
 refine Zsr ?_
 refine Zm ?_
 refine Zk cf43 (cnone_c hB) ?_
 rintro v w9 ⟨rfl, hw9⟩
 obtain rfl := hw9.symm
 refine Znn ?_
 refine Zcf ?_
 refine Zsk ?_
 refine Znx ?_
 refine Zsr ?_
 refine Zm ?_
 refine Zm ?_
 refine Zk (args := #[.pointer (some ⟨b, 0, none⟩), .int .u32 line]) cf34 (state_c line (by omega) hB hL ap_FpL_b) ?_
 rintro v w3 ⟨rfl, hN4⟩
 refine Za ?_
 refine Znn ?_
 refine Zsq ?_
 refine Zbl ?_
 refine Zsq ?_
 replace hA := hA.new hN4
 obtain ⟨ba, rfl, hAB, hAF, hal⟩ := hA
 have gi_ba := gA_FpA ba ((hAF ba).2 rfl)
 refine Zrg ?_
 refine Zm ?_
 refine Zn ?_
 refine Zf fo83_2 ?_
 replace hB := hB.new hN4
 refine Zd pl80 (hB.cell 2 rfl) ?_
 refine Zv (.bool true) (fun _ fr => x_pneq Try.underlying80 rfl (fr.ev rfl) rfl rfl) ?_
 refine Zm ?_
 refine Zs ?_
 refine Zs ?_
 refine Zs ?_
 refine Zs ?_
 refine Zs ?_
 refine Zs ?_
 refine Zs ?_
 refine Zs ?_
 refine Zs ?_
 refine Zs ?_
 refine Zs ?_
 refine Zs ?_
 refine Zs ?_
 refine Zs ?_
 refine Zs ?_
 refine Zs ?_
 refine Zpt ?_
 refine Za ?_
 refine Znn ?_
 refine Zct ?_
 refine Zsr ?_
 refine Za ?_
 refine Za ?_
 refine Znn ?_
 refine Zrt ?_
 refine Zr2 ?_
 refine Zr1 ?_
 refine Zre rfl [_, _] ⟨rfl, rfl, trivial⟩ ?_
 replace hF := hF.trNew hN4
 exact ⟨_, rfl, rfl, hF⟩
set_option maxRecDepth 100000 in
set_option maxHeartbeats 4000000 in
theorem ask_b2 {w : World} {Fp : Nat → Prop} {b : Nat} {id : Int} {n : Nat} {ways : Int} {L : List Ln} {gx : Ln} (H : CacheAt w Fp b ⟨id, n, ways, L, none, (some gx)⟩) (line : Int) (hln : 0 ≤ line ∧ line < 4294967296) (pick : Int) (hg : gx.num = line) (wr : Bool) : Calls Try.prog 13 #[.pointer (some ⟨b, 0, none⟩), .int .u32 line, .bool wr, .int .i64 pick] w (Ret fun v w' => v = .tuple #[.slice none 0 0, .int .i64 230] ∧ New w w') := by
 obtain ⟨lb, FpL, pa, pg, FpA, FpG, hB, hL, hA, hG, hP⟩ := H
 dsimp only at hB hL hA hG
 have ap_FpL_b := hP.lb
 obtain ⟨hn1, hn2, hw1, hw2⟩ := hL.bd
 have gA_FpG := fun g (hg : FpG g) => (Or.inl trivial : True ∨ w.heap.size ≤ g)
 have hF := Only.refl (fun _ => False) w
 refine Zen 91 Try.func13 ?_
 refine Zsr ?_
 refine Za ?_
 refine Za ?_
 refine Znn ?_
 refine Zsq ?_
 refine Zsr ?_
 refine Zm ?_
 refine Zk cf43 (cnone_c hB) ?_
 rintro v w9 ⟨rfl, hw9⟩
 obtain rfl := hw9.symm
 refine Znn ?_
 refine Zcf ?_
 refine Zsk ?_
 refine Znx ?_
 refine Zsr ?_
 refine Zm ?_
 refine Zm ?_
 refine Zk (args := #[.pointer (some ⟨b, 0, none⟩), .int .u32 line]) cf34 (state_c line (by omega) hB hL ap_FpL_b) ?_
 rintro v w3 ⟨rfl, hN4⟩
 refine Za ?_
 refine Znn ?_
 refine Zsq ?_
 refine Zbl ?_
 refine Zsq ?_
 replace hA := hA.new hN4
 obtain ⟨rfl, hA0⟩ := hA
 replace hG := hG.new hN4
 obtain ⟨bg, rfl, hGB, hGF⟩ := hG
 have gi_bg := gA_FpG bg ((hGF bg).2 rfl)
 refine Zrg ?_
 refine Zm ?_
 refine Zn ?_
 refine Zf fo83_2 ?_
 replace hB := hB.new hN4
 refine Zd pl80 (hB.cell 2 rfl) ?_
 refine Zv (.bool false) (fun _ fr => x_pneq Try.underlying80 rfl (fr.ev rfl) rfl rfl) ?_
 refine Zm ?_
 refine Zm ?_
 refine Zn ?_
 refine Zf fo83_3 ?_
 refine Zd pl81 (hB.cell 3 rfl) ?_
 refine Zv (.bool true) (fun _ fr => x_pneq Try.underlying81 rfl (fr.ev rfl) rfl rfl) ?_
 refine Zm ?_
 refine Zm ?_
 refine Zn ?_
 refine Zf fo83_3 ?_
 refine Zd pl81 (hB.cell 3 rfl) ?_
 refine Zn ?_
 refine Zf fo39_0 ?_
 refine Zd (v := .int .u32 gx.num) pl32 (hGB.cell 0 rfl) ?_
 refine Zm ?_
 refine Zv (.bool true) (fun _ fr => x_eql rfl (fr.ev rfl) (fr.ev rfl) (decide_eq_true hg)) ?_
 refine Zpt ?_
 refine Zpf ?_
 refine Za ?_
 refine Znn ?_
 refine Zct ?_
 refine Zsr ?_
 refine Za ?_
 refine Za ?_
 refine Znn ?_
 refine Zrt ?_
 refine Zr2 ?_
 refine Zr1 ?_
 refine Zre rfl [_, _] ⟨rfl, rfl, trivial⟩ ?_
 replace hF := hF.trNew hN4
 exact ⟨_, rfl, rfl, hF⟩
set_option maxRecDepth 100000 in
set_option maxHeartbeats 4000000 in
theorem ask_trn {w : World} {Fp : Nat → Prop} {b : Nat} {id : Int} {n : Nat} {ways : Int} {L : List Ln} (H : CacheAt w Fp b ⟨id, n, ways, L, none, none⟩) (line : Int) (hln : 0 ≤ line ∧ line < 4294967296) (pick : Int) (hs : stateOf L line ≠ 0)  : Calls Try.prog 13 #[.pointer (some ⟨b, 0, none⟩), .int .u32 line, .bool false, .int .i64 pick] w (Ret fun v w' => v = .tuple #[.slice none 0 0, .int .i64 231] ∧ New w w') := by
 obtain ⟨lb, FpL, pa, pg, FpA, FpG, hB, hL, hA, hG, hP⟩ := H
 dsimp only at hB hL hA hG
 have ap_FpL_b := hP.lb
 obtain ⟨hn1, hn2, hw1, hw2⟩ := hL.bd
 have hF := Only.refl (fun _ => False) w
 refine Zen 91 Try.func13 ?_
 refine Zsr ?_
 refine Za ?_
 refine Za ?_
 refine Znn ?_
 refine Zsq ?_
 refine Zsr ?_
 refine Zm ?_
 refine Zk cf43 (cnone_c hB) ?_
 rintro v w9 ⟨rfl, hw9⟩
 obtain rfl := hw9.symm
 refine Znn ?_
 refine Zcf ?_
 refine Zsk ?_
 refine Znx ?_
 refine Zsr ?_
 refine Zm ?_
 refine Zm ?_
 refine Zk (args := #[.pointer (some ⟨b, 0, none⟩), .int .u32 line]) cf34 (state_c line (by omega) hB hL ap_FpL_b) ?_
 rintro v w3 ⟨rfl, hN4⟩
 refine Za ?_
 refine Znn ?_
 refine Zsq ?_
 refine Zbl ?_
 refine Zsq ?_
 replace hA := hA.new hN4
 obtain ⟨rfl, hA0⟩ := hA
 replace hG := hG.new hN4
 obtain ⟨rfl, hG0⟩ := hG
 refine Zrg ?_
 refine Zm ?_
 refine Zn ?_
 refine Zf fo83_2 ?_
 replace hB := hB.new hN4
 refine Zd pl80 (hB.cell 2 rfl) ?_
 refine Zv (.bool false) (fun _ fr => x_pneq Try.underlying80 rfl (fr.ev rfl) rfl rfl) ?_
 refine Zm ?_
 refine Zm ?_
 refine Zn ?_
 refine Zf fo83_3 ?_
 refine Zd pl81 (hB.cell 3 rfl) ?_
 refine Zv (.bool false) (fun _ fr => x_pneq Try.underlying81 rfl (fr.ev rfl) rfl rfl) ?_
 refine Zm ?_
 refine Zs ?_
 refine Zs ?_
 refine Zs ?_
 refine Zs ?_
 refine Zs ?_
 refine Zs ?_
 refine Zs ?_
 refine Zs ?_
 refine Zs ?_
 refine Zpf ?_
 refine Zpf ?_
 refine Za ?_
 refine Znn ?_
 refine Zcf ?_
 refine Zsr ?_
 refine Zm ?_
 refine Zv (.bool true) (fun _ fr => x_neq rfl (fr.ev rfl) rfl (decide_eq_true hs)) ?_
 refine Zm ?_
 refine Zm ?_
 refine Zv (.bool true) (fun _ fr => x_not rfl (fr.ev rfl) rfl) ?_
 refine Zm ?_
 refine Zs ?_
 refine Zs ?_
 refine Zpt ?_
 refine Zpt ?_
 refine Za ?_
 refine Znn ?_
 refine Zct ?_
 refine Zsr ?_
 refine Za ?_
 refine Za ?_
 refine Znn ?_
 refine Zrt ?_
 refine Zr2 ?_
 refine Zr1 ?_
 refine Zre rfl [_, _] ⟨rfl, rfl, trivial⟩ ?_
 replace hF := hF.trNew hN4
 exact ⟨_, rfl, rfl, hF⟩
set_option maxRecDepth 100000 in
set_option maxHeartbeats 4000000 in
theorem ask_nr0n {w : World} {Fp : Nat → Prop} {b : Nat} {id : Int} {n : Nat} {ways : Int} {L : List Ln} (H : CacheAt w Fp b ⟨id, n, ways, L, none, none⟩) (line : Int) (hln : 0 ≤ line ∧ line < 4294967296) (pick : Int) (hs : ¬ stateOf L line ≠ 0) (hv : vicL n ways L line pick = none) : Calls Try.prog 13 #[.pointer (some ⟨b, 0, none⟩), .int .u32 line, .bool false, .int .i64 pick] w (Ret fun v w' => ∃ A' cap', v = .tuple #[.slice A' ([askM id line false hln]).length cap', .int .i64 0] ∧ Own msgE w' A' cap' ([askM id line false hln]) ∧ (∀ g, inA A' g → w.heap.size ≤ g) ∧ ∃ Fp', CacheAt w' Fp' b ⟨id, n, ways, L, (some (line, false)), none⟩ ∧ Only Fp w w' ∧ ∀ g, Fp' g → Fp g ∨ w.heap.size ≤ g) := by
 obtain ⟨lb, FpL, pa, pg, FpA, FpG, hB, hL, hA, hG, hP⟩ := H
 dsimp only at hB hL hA hG
 have ap_FpL_b := hP.lb
 obtain ⟨hn1, hn2, hw1, hw2⟩ := hL.bd
 have gA_FpL : ∀ g, FpL g → Fp g ∨ w.heap.size ≤ g := fun g hg => .inl ((hP.foot g).2 (.inr (.inl hg)))
 have hF := Only.refl (Fp) w
 refine Zen 91 Try.func13 ?_
 refine Zsr ?_
 refine Za ?_
 refine Za ?_
 refine Znn ?_
 refine Zsq ?_
 refine Zsr ?_
 refine Zm ?_
 refine Zk cf43 (cnone_c hB) ?_
 rintro v w9 ⟨rfl, hw9⟩
 obtain rfl := hw9.symm
 refine Znn ?_
 refine Zcf ?_
 refine Zsk ?_
 refine Znx ?_
 refine Zsr ?_
 refine Zm ?_
 refine Zm ?_
 refine Zk (args := #[.pointer (some ⟨b, 0, none⟩), .int .u32 line]) cf34 (state_c line (by omega) hB hL ap_FpL_b) ?_
 rintro v w3 ⟨rfl, hN4⟩
 refine Za ?_
 refine Znn ?_
 refine Zsq ?_
 refine Zbl ?_
 refine Zsq ?_
 replace hA := hA.new hN4
 obtain ⟨rfl, hA0⟩ := hA
 replace hG := hG.new hN4
 obtain ⟨rfl, hG0⟩ := hG
 refine Zrg ?_
 refine Zm ?_
 refine Zn ?_
 refine Zf fo83_2 ?_
 replace hB := hB.new hN4
 refine Zd pl80 (hB.cell 2 rfl) ?_
 refine Zv (.bool false) (fun _ fr => x_pneq Try.underlying80 rfl (fr.ev rfl) rfl rfl) ?_
 refine Zm ?_
 refine Zm ?_
 refine Zn ?_
 refine Zf fo83_3 ?_
 refine Zd pl81 (hB.cell 3 rfl) ?_
 refine Zv (.bool false) (fun _ fr => x_pneq Try.underlying81 rfl (fr.ev rfl) rfl rfl) ?_
 refine Zm ?_
 refine Zs ?_
 refine Zs ?_
 refine Zs ?_
 refine Zs ?_
 refine Zs ?_
 refine Zs ?_
 refine Zs ?_
 refine Zs ?_
 refine Zs ?_
 refine Zpf ?_
 refine Zpf ?_
 refine Za ?_
 refine Znn ?_
 refine Zcf ?_
 refine Zsr ?_
 refine Zm ?_
 refine Zv (.bool false) (fun _ fr => x_neq rfl (fr.ev rfl) rfl (decide_eq_false hs)) ?_
 refine Zm ?_
 refine Zs ?_
 refine Zs ?_
 refine Zs ?_
 refine Zs ?_
 refine Zs ?_
 refine Zs ?_
 refine Zpf ?_
 refine Za ?_
 refine Znn ?_
 refine Zcf ?_
 refine Zsk ?_
 refine Zb ?_
 refine Znx ?_
 refine Zsq ?_
 refine Zsr ?_
 refine Zm ?_
 refine Zn ?_
 refine Zf fo83_1 ?_
 refine Zd pl79 (hB.cell 1 rfl) ?_
 refine Zm ?_
 refine Zm ?_
 replace hL := hL.new hN4
 refine Zk (args := #[.pointer (some ⟨lb, 0, none⟩), .int .u32 line, .int .i64 pick]) cf45 (victim_c line (by omega) pick hL) ?_
 rintro v w5 ⟨rfl, hN6⟩
 intro a fr
 rw [hv] at fr
 simp only [Option.getD_none, Option.isSome_none] at fr
 revert a
 refine Zm ?_
 refine Zt ?_
 refine Zt ?_
 refine Zna (z := zv1) (cs := lnE.arr ln0) (by kernel_rfl) fun b7 w8 hN9 B10 hb11 => ?_
 replace hB := hB.new hN6
 have ne_b_b7 : NE b b7 := NE.mk (Nat.lt_of_lt_of_le hB.lt hb11)
 replace hL := hL.new hN6
 have ap_FpL_b7 : ¬ FpL b7 := hL.apart hb11
 replace hF := (hF.trNew hN4).trNew hN6
 have g_b7 := Nat.le_trans hF.size hb11
 refine ZsS sz39 (lnE.all _) B10 (lnE.size _) (lnE.size _) fun w12 hO13 hBq => ?_
 clear hBq
 refine Za ?_
 refine Znn ?_
 refine Zsr ?_
 refine Zm ?_
 refine Znn ?_
 refine Zcf ?_
 refine Zsk ?_
 refine Znx ?_
 refine Zsr ?_
 refine Zm ?_
 refine Zm ?_
 refine Zm ?_
 refine Zv (.agg (#[.int .u32 line, .bool false])) (fun a fr => x_build (cells := #[.int .u32 line, .bool false]) rfl (by simp only [List.map_toArray, List.map_cons, List.map_nil, show a.eval (.tmp 77) = .int .u32 line from fr.ev rfl, show a.eval (.tmp 78) = .bool false from fr.ev rfl]; kernel_rfl)) ?_
 refine Znb (cs := #[.int .u32 line, .bool false]) fun b14 w15 hN16 B17 hb18 => ?_
 replace hB := (hB.new hN9).only hO13 ne_b_b7
 have ne_b_b14 : NE b b14 := NE.mk (Nat.lt_of_lt_of_le hB.lt hb18)
 replace hL := (hL.new hN9).only hO13 (ne1P ap_FpL_b7)
 have ap_FpL_b14 : ¬ FpL b14 := hL.apart hb18
 replace hF := (hF.trNew hN9).loc hO13 (.inr g_b7)
 have g_b14 := Nat.le_trans hF.size hb18
 refine Zn ?_
 refine Zf fo83_2 ?_
 replace hB := hB.new hN16
 refine Zs1 (cs' := #[.int .i64 id, .pointer (some ⟨lb, 0, none⟩), .pointer (some ⟨b14, 0, none⟩), .pointer none]) sz80 hB (show 2 < 4 by decide) rfl fun w19 hO20 hBq => ?_
 replace hB := hBq
 clear hBq
 refine Znn ?_
 refine Zsr ?_
 refine Za ?_
 refine Znn ?_
 refine Zsq ?_
 refine Zsr ?_
 refine Zm ?_
 refine Znn ?_
 refine Zcf ?_
 refine Zsk ?_
 refine Znx ?_
 refine Zsr ?_
 refine Zm ?_
 refine Zm ?_
 refine Zm ?_
 refine Zm ?_
 refine Zk (args := #[.pointer (some ⟨b, 0, none⟩), .int .i64 1, .int .u32 line]) cf47 (msg_c hB 1 line (by omega)) ?_
 rintro v w21 ⟨rfl, hN22⟩
 intro a fr
 refine fx_build1 (E := msgE) (p := (mkM 1 id 4 line)) elMsg (by decide) fr rfl rfl (by decide) rfl (fr.ev rfl) ?_
 clear fr a
 intro A23 w24 hN25 O26 hA27
 intro a fr
 refine fx_append (E := msgE) (l := []) (l' := [(mkM 1 id 4 line)]) elMsg fr rfl rfl (by decide) rfl (fr.ev rfl) (fr.ev rfl) (by first | rfl | (simp; done) | (simp; omega)) (by first | rfl | (simp; done) | (simp; omega)) Own.nil O26.view (by first | omega | (simp only [List.length_append, List.length_cons, List.length_nil, List.nil_append]; omega)) (by first | (unfold maxLen; done) | (unfold maxLen; first | omega | (simp; done) | (simp; omega))) ?_
 clear fr a
 intro A28 cap29 w30 O31 hO32 mv33
 replace hF := (((hF.trNew hN16).loc hO20 (.inl ((hP.foot b).2 (.inl rfl)))).trNew hN22).trNew hN25
 have gN_A28 := fun g (hg : inA A28 g) => (mv33 g hg).elim (fun h => absurd h (apart_none g)) (fun h => Nat.le_trans hF.size h)
 replace hO32 := only_none hO32
 refine Za ?_
 refine Za ?_
 refine Znn ?_
 refine Zrt ?_
 refine Zre rfl [_, _] ⟨rfl, rfl, trivial⟩ ?_
 have gi_b14 : Fp b14 ∨ w.heap.size ≤ b14 := .inr g_b14
 replace hL := ((((hL.new hN16).only hO20 (ne1P ap_FpL_b)).new hN22).new hN25).new hO32
 replace B17 := (((B17.only hO20 ne_b_b14.symm).new hN22).new hN25).new hO32
 replace hB := ((hB.new hN22).new hN25).new hO32
 replace hF := hF.trNew hO32
 exact ⟨_, rfl, A28, cap29, rfl, O31, gN_A28, (fun k => k = b ∨ FpL k ∨ (fun k => k = b14) k ∨ (fun _ => False) k), ⟨lb, FpL, _, _, (fun k => k = b14), (fun _ => False), hB, hL, ⟨b14, rfl, B17, fun _ => Iff.rfl, hln⟩, ⟨rfl, fun _ h => h⟩, ⟨ap_FpL_b, (fun e => (show ¬ b = b14 from ne_b_b14) e), (fun h => h), (fun k hk e => ap_FpL_b14 (e ▸ hk)), (fun _ _ h => h), (fun _ _ h => h), fun _ => Iff.rfl⟩⟩, hF, (fun g hg => hg.elim (fun e => by rw [e]; exact .inl ((hP.foot b).2 (.inl rfl))) fun h => h.elim (gA_FpL g) fun h => h.elim (fun e => by rw [e]; exact gi_b14) (fun h => h.elim))⟩
set_option maxRecDepth 100000 in
set_option maxHeartbeats 4000000 in
theorem ask_sr0n {w : World} {Fp : Nat → Prop} {b : Nat} {id : Int} {n : Nat} {ways : Int} {L : List Ln} (H : CacheAt w Fp b ⟨id, n, ways, L, none, none⟩) (line : Int) (hln : 0 ≤ line ∧ line < 4294967296) (pick : Int) (hs : ¬ stateOf L line ≠ 0) (vx : Ln) (hv : vicL n ways L line pick = some vx) (hx : vx.state = 1) : Calls Try.prog 13 #[.pointer (some ⟨b, 0, none⟩), .int .u32 line, .bool false, .int .i64 pick] w (Ret fun v w' => ∃ A' cap', v = .tuple #[.slice A' ([askM id line false hln]).length cap', .int .i64 0] ∧ Own msgE w' A' cap' ([askM id line false hln]) ∧ (∀ g, inA A' g → w.heap.size ≤ g) ∧ ∃ Fp', CacheAt w' Fp' b ⟨id, n, ways, dropL L vx.num, (some (line, false)), none⟩ ∧ Only Fp w w' ∧ ∀ g, Fp' g → Fp g ∨ w.heap.size ≤ g) := by
 obtain ⟨lb, FpL, pa, pg, FpA, FpG, hB, hL, hA, hG, hP⟩ := H
 dsimp only at hB hL hA hG
 have ap_FpL_b := hP.lb
 obtain ⟨hn1, hn2, hw1, hw2⟩ := hL.bd
 have gA_FpL : ∀ g, FpL g → Fp g ∨ w.heap.size ≤ g := fun g hg => .inl ((hP.foot g).2 (.inr (.inl hg)))
 have hF := Only.refl (Fp) w
 refine Zen 91 Try.func13 ?_
 refine Zsr ?_
 refine Za ?_
 refine Za ?_
 refine Znn ?_
 refine Zsq ?_
 refine Zsr ?_
 refine Zm ?_
 refine Zk cf43 (cnone_c hB) ?_
 rintro v w9 ⟨rfl, hw9⟩
 obtain rfl := hw9.symm
 refine Znn ?_
 refine Zcf ?_
 refine Zsk ?_
 refine Znx ?_
 refine Zsr ?_
 refine Zm ?_
 refine Zm ?_
 refine Zk (args := #[.pointer (some ⟨b, 0, none⟩), .int .u32 line]) cf34 (state_c line (by omega) hB hL ap_FpL_b) ?_
 rintro v w3 ⟨rfl, hN4⟩
 refine Za ?_
 refine Znn ?_
 refine Zsq ?_
 refine Zbl ?_
 refine Zsq ?_
 replace hA := hA.new hN4
 obtain ⟨rfl, hA0⟩ := hA
 replace hG := hG.new hN4
 obtain ⟨rfl, hG0⟩ := hG
 refine Zrg ?_
 refine Zm ?_
 refine Zn ?_
 refine Zf fo83_2 ?_
 replace hB := hB.new hN4
 refine Zd pl80 (hB.cell 2 rfl) ?_
 refine Zv (.bool false) (fun _ fr => x_pneq Try.underlying80 rfl (fr.ev rfl) rfl rfl) ?_
 refine Zm ?_
 refine Zm ?_
 refine Zn ?_
 refine Zf fo83_3 ?_
 refine Zd pl81 (hB.cell 3 rfl) ?_
 refine Zv (.bool false) (fun _ fr => x_pneq Try.underlying81 rfl (fr.ev rfl) rfl rfl) ?_
 refine Zm ?_
 refine Zs ?_
 refine Zs ?_
 refine Zs ?_
 refine Zs ?_
 refine Zs ?_
 refine Zs ?_
 refine Zs ?_
 refine Zs ?_
 refine Zs ?_
 refine Zpf ?_
 refine Zpf ?_
 refine Za ?_
 refine Znn ?_
 refine Zcf ?_
 refine Zsr ?_
 refine Zm ?_
 refine Zv (.bool false) (fun _ fr => x_neq rfl (fr.ev rfl) rfl (decide_eq_false hs)) ?_
 refine Zm ?_
 refine Zs ?_
 refine Zs ?_
 refine Zs ?_
 refine Zs ?_
 refine Zs ?_
 refine Zs ?_
 refine Zpf ?_
 refine Za ?_
 refine Znn ?_
 refine Zcf ?_
 refine Zsk ?_
 refine Zb ?_
 refine Znx ?_
 refine Zsq ?_
 refine Zsr ?_
 refine Zm ?_
 refine Zn ?_
 refine Zf fo83_1 ?_
 refine Zd pl79 (hB.cell 1 rfl) ?_
 refine Zm ?_
 refine Zm ?_
 replace hL := hL.new hN4
 refine Zk (args := #[.pointer (some ⟨lb, 0, none⟩), .int .u32 line, .int .i64 pick]) cf45 (victim_c line (by omega) pick hL) ?_
 rintro v w5 ⟨rfl, hN6⟩
 intro a fr
 rw [hv] at fr
 simp only [Option.getD_some, Option.isSome_some] at fr
 revert a
 refine Zm ?_
 refine Zt ?_
 refine Zt ?_
 refine Zna (z := zv1) (cs := lnE.arr ln0) (by kernel_rfl) fun b7 w8 hN9 B10 hb11 => ?_
 replace hB := hB.new hN6
 have ne_b_b7 : NE b b7 := NE.mk (Nat.lt_of_lt_of_le hB.lt hb11)
 replace hL := hL.new hN6
 have ap_FpL_b7 : ¬ FpL b7 := hL.apart hb11
 replace hF := (hF.trNew hN4).trNew hN6
 have g_b7 := Nat.le_trans hF.size hb11
 refine ZsS sz39 (lnE.all _) B10 (lnE.size _) (lnE.size _) fun w12 hO13 hBq => ?_
 replace B10 := hBq
 clear hBq
 refine Za ?_
 refine Znn ?_
 refine Zsr ?_
 refine Zm ?_
 refine Znn ?_
 refine Zct ?_
 refine Zsr ?_
 refine Zm ?_
 refine ZE lnE ag39 (B10.rangeE lnE) ?_
 replace hB := (hB.new hN9).only hO13 ne_b_b7
 replace hL := (hL.new hN9).only hO13 (ne1P ap_FpL_b7)
 refine Zk cf46 (out_s hB hL ap_FpL_b vx hx) ?_
 rintro v w18 ⟨rfl, hB14, Fp15, H16, mv17, hN19⟩
 have ap_Fp15_b : ¬ Fp15 b := moved_apartP mv17 ap_FpL_b hB.lt
 replace hF := (hF.trNew hN9).loc hO13 (.inr g_b7)
 have gA_Fp15 := gA_movedP hF mv17 gA_FpL
 clear hL
 replace hB := hB14
 clear hB14
 refine Zm ?_
 refine Zt ?_
 refine Zt ?_
 refine Za ?_
 refine Za ?_
 refine Znn ?_
 refine Zsq ?_
 refine Zsr ?_
 refine Zm ?_
 refine Zv (.bool false) (fun _ fr => x_not rfl (fr.ev rfl) rfl) ?_
 refine Znn ?_
 refine Zcf ?_
 refine Zsk ?_
 refine Znx ?_
 refine Zrg ?_
 refine Zm ?_
 refine Za ?_
 refine Znn ?_
 refine Zsr ?_
 refine Zm ?_
 refine Zm ?_
 refine Zm ?_
 refine Zv (.agg (#[.int .u32 line, .bool false])) (fun a fr => x_build (cells := #[.int .u32 line, .bool false]) rfl (by simp only [List.map_toArray, List.map_cons, List.map_nil, show a.eval (.tmp 77) = .int .u32 line from fr.ev rfl, show a.eval (.tmp 78) = .bool false from fr.ev rfl]; kernel_rfl)) ?_
 refine Znb (cs := #[.int .u32 line, .bool false]) fun b20 w21 hN22 B23 hb24 => ?_
 have ne_b_b20 : NE b b20 := NE.mk (Nat.lt_of_lt_of_le hB.lt hb24)
 have ap_Fp15_b20 : ¬ Fp15 b20 := H16.apart hb24
 replace hF := hF.locS hN19 (fun i => (fun h => h.elim (fun e => by rw [e]; exact (.inl ((hP.foot b).2 (.inl rfl)))) (fun h => gA_FpL i h)))
 have g_b20 := Nat.le_trans hF.size hb24
 refine Zn ?_
 refine Zf fo83_2 ?_
 replace hB := hB.new hN22
 refine Zs1 (cs' := #[.int .i64 id, .pointer (some ⟨lb, 0, none⟩), .pointer (some ⟨b20, 0, none⟩), .pointer none]) sz80 hB (show 2 < 4 by decide) rfl fun w25 hO26 hBq => ?_
 replace hB := hBq
 clear hBq
 refine Znn ?_
 refine Zsr ?_
 refine Za ?_
 refine Znn ?_
 refine Zsq ?_
 refine Zsr ?_
 refine Zm ?_
 refine Znn ?_
 refine Zcf ?_
 refine Zsk ?_
 refine Znx ?_
 refine Zsr ?_
 refine Zm ?_
 refine Zm ?_
 refine Zm ?_
 refine Zm ?_
 refine Zk (args := #[.pointer (some ⟨b, 0, none⟩), .int .i64 1, .int .u32 line]) cf47 (msg_c hB 1 line (by omega)) ?_
 rintro v w27 ⟨rfl, hN28⟩
 intro a fr
 refine fx_build1 (E := msgE) (p := (mkM 1 id 4 line)) elMsg (by decide) fr rfl rfl (by decide) rfl (fr.ev rfl) ?_
 clear fr a
 intro A29 w30 hN31 O32 hA33
 intro a fr
 refine fx_append (E := msgE) (l := []) (l' := [(mkM 1 id 4 line)]) elMsg fr rfl rfl (by decide) rfl (fr.ev rfl) (fr.ev rfl) (by first | rfl | (simp; done) | (simp; omega)) (by first | rfl | (simp; done) | (simp; omega)) Own.nil O32.view (by first | omega | (simp only [List.length_append, List.length_cons, List.length_nil, List.nil_append]; omega)) (by first | (unfold maxLen; done) | (unfold maxLen; first | omega | (simp; done) | (simp; omega))) ?_
 clear fr a
 intro A34 cap35 w36 O37 hO38 mv39
 replace hF := (((hF.trNew hN22).loc hO26 (.inl ((hP.foot b).2 (.inl rfl)))).trNew hN28).trNew hN31
 have gN_A34 := fun g (hg : inA A34 g) => (mv39 g hg).elim (fun h => absurd h (apart_none g)) (fun h => Nat.le_trans hF.size h)
 replace hO38 := only_none hO38
 refine Za ?_
 refine Za ?_
 refine Znn ?_
 refine Zrt ?_
 refine Zre rfl [_, _] ⟨rfl, rfl, trivial⟩ ?_
 have gi_b20 : Fp b20 ∨ w.heap.size ≤ b20 := .inr g_b20
 replace H16 := ((((H16.new hN22).only hO26 (ne1P ap_Fp15_b)).new hN28).new hN31).new hO38
 replace B23 := (((B23.only hO26 ne_b_b20.symm).new hN28).new hN31).new hO38
 replace hB := ((hB.new hN28).new hN31).new hO38
 replace hF := hF.trNew hO38
 exact ⟨_, rfl, A34, cap35, rfl, O37, gN_A34, (fun k => k = b ∨ Fp15 k ∨ (fun k => k = b20) k ∨ (fun _ => False) k), ⟨lb, Fp15, _, _, (fun k => k = b20), (fun _ => False), hB, H16, ⟨b20, rfl, B23, fun _ => Iff.rfl, hln⟩, ⟨rfl, fun _ h => h⟩, ⟨ap_Fp15_b, (fun e => (show ¬ b = b20 from ne_b_b20) e), (fun h => h), (fun k hk e => ap_Fp15_b20 (e ▸ hk)), (fun _ _ h => h), (fun _ _ h => h), fun _ => Iff.rfl⟩⟩, hF, (fun g hg => hg.elim (fun e => by rw [e]; exact .inl ((hP.foot b).2 (.inl rfl))) fun h => h.elim (gA_Fp15 g) fun h => h.elim (fun e => by rw [e]; exact gi_b20) (fun h => h.elim))⟩
set_option maxRecDepth 100000 in
set_option maxHeartbeats 4000000 in
theorem ask_pr0n {w : World} {Fp : Nat → Prop} {b : Nat} {id : Int} {n : Nat} {ways : Int} {L : List Ln} (H : CacheAt w Fp b ⟨id, n, ways, L, none, none⟩) (line : Int) (hln : 0 ≤ line ∧ line < 4294967296) (pick : Int) (hs : ¬ stateOf L line ≠ 0) (vx : Ln) (hv : vicL n ways L line pick = some vx) (hx : ¬ vx.state = 1) : Calls Try.prog 13 #[.pointer (some ⟨b, 0, none⟩), .int .u32 line, .bool false, .int .i64 pick] w (Ret fun v w' => ∃ A' cap', v = .tuple #[.slice A' ([putM id vx] ++ [askM id line false hln]).length cap', .int .i64 0] ∧ Own msgE w' A' cap' ([putM id vx] ++ [askM id line false hln]) ∧ (∀ g, inA A' g → w.heap.size ≤ g) ∧ ∃ Fp', CacheAt w' Fp' b ⟨id, n, ways, dropL L vx.num, (some (line, false)), (some vx)⟩ ∧ Only Fp w w' ∧ ∀ g, Fp' g → Fp g ∨ w.heap.size ≤ g) := by
 obtain ⟨lb, FpL, pa, pg, FpA, FpG, hB, hL, hA, hG, hP⟩ := H
 dsimp only at hB hL hA hG
 have ap_FpL_b := hP.lb
 obtain ⟨hn1, hn2, hw1, hw2⟩ := hL.bd
 have gA_FpL : ∀ g, FpL g → Fp g ∨ w.heap.size ≤ g := fun g hg => .inl ((hP.foot g).2 (.inr (.inl hg)))
 have hF := Only.refl (Fp) w
 refine Zen 91 Try.func13 ?_
 refine Zsr ?_
 refine Za ?_
 refine Za ?_
 refine Znn ?_
 refine Zsq ?_
 refine Zsr ?_
 refine Zm ?_
 refine Zk cf43 (cnone_c hB) ?_
 rintro v w9 ⟨rfl, hw9⟩
 obtain rfl := hw9.symm
 refine Znn ?_
 refine Zcf ?_
 refine Zsk ?_
 refine Znx ?_
 refine Zsr ?_
 refine Zm ?_
 refine Zm ?_
 refine Zk (args := #[.pointer (some ⟨b, 0, none⟩), .int .u32 line]) cf34 (state_c line (by omega) hB hL ap_FpL_b) ?_
 rintro v w3 ⟨rfl, hN4⟩
 refine Za ?_
 refine Znn ?_
 refine Zsq ?_
 refine Zbl ?_
 refine Zsq ?_
 replace hA := hA.new hN4
 obtain ⟨rfl, hA0⟩ := hA
 replace hG := hG.new hN4
 obtain ⟨rfl, hG0⟩ := hG
 refine Zrg ?_
 refine Zm ?_
 refine Zn ?_
 refine Zf fo83_2 ?_
 replace hB := hB.new hN4
 refine Zd pl80 (hB.cell 2 rfl) ?_
 refine Zv (.bool false) (fun _ fr => x_pneq Try.underlying80 rfl (fr.ev rfl) rfl rfl) ?_
 refine Zm ?_
 refine Zm ?_
 refine Zn ?_
 refine Zf fo83_3 ?_
 refine Zd pl81 (hB.cell 3 rfl) ?_
 refine Zv (.bool false) (fun _ fr => x_pneq Try.underlying81 rfl (fr.ev rfl) rfl rfl) ?_
 refine Zm ?_
 refine Zs ?_
 refine Zs ?_
 refine Zs ?_
 refine Zs ?_
 refine Zs ?_
 refine Zs ?_
 refine Zs ?_
 refine Zs ?_
 refine Zs ?_
 refine Zpf ?_
 refine Zpf ?_
 refine Za ?_
 refine Znn ?_
 refine Zcf ?_
 refine Zsr ?_
 refine Zm ?_
 refine Zv (.bool false) (fun _ fr => x_neq rfl (fr.ev rfl) rfl (decide_eq_false hs)) ?_
 refine Zm ?_
 refine Zs ?_
 refine Zs ?_
 refine Zs ?_
 refine Zs ?_
 refine Zs ?_
 refine Zs ?_
 refine Zpf ?_
 refine Za ?_
 refine Znn ?_
 refine Zcf ?_
 refine Zsk ?_
 refine Zb ?_
 refine Znx ?_
 refine Zsq ?_
 refine Zsr ?_
 refine Zm ?_
 refine Zn ?_
 refine Zf fo83_1 ?_
 refine Zd pl79 (hB.cell 1 rfl) ?_
 refine Zm ?_
 refine Zm ?_
 replace hL := hL.new hN4
 refine Zk (args := #[.pointer (some ⟨lb, 0, none⟩), .int .u32 line, .int .i64 pick]) cf45 (victim_c line (by omega) pick hL) ?_
 rintro v w5 ⟨rfl, hN6⟩
 intro a fr
 rw [hv] at fr
 simp only [Option.getD_some, Option.isSome_some] at fr
 revert a
 refine Zm ?_
 refine Zt ?_
 refine Zt ?_
 refine Zna (z := zv1) (cs := lnE.arr ln0) (by kernel_rfl) fun b7 w8 hN9 B10 hb11 => ?_
 replace hB := hB.new hN6
 have ne_b_b7 : NE b b7 := NE.mk (Nat.lt_of_lt_of_le hB.lt hb11)
 replace hL := hL.new hN6
 have ap_FpL_b7 : ¬ FpL b7 := hL.apart hb11
 replace hF := (hF.trNew hN4).trNew hN6
 have g_b7 := Nat.le_trans hF.size hb11
 refine ZsS sz39 (lnE.all _) B10 (lnE.size _) (lnE.size _) fun w12 hO13 hBq => ?_
 replace B10 := hBq
 clear hBq
 refine Za ?_
 refine Znn ?_
 refine Zsr ?_
 refine Zm ?_
 refine Znn ?_
 refine Zct ?_
 refine Zsr ?_
 refine Zm ?_
 refine ZE lnE ag39 (B10.rangeE lnE) ?_
 replace hB := (hB.new hN9).only hO13 ne_b_b7
 replace hL := (hL.new hN9).only hO13 (ne1P ap_FpL_b7)
 refine Zk cf46 (out_n hB hL ap_FpL_b vx hx) ?_
 rintro v w25 ⟨A18, cap19, rfl, O20, hA21, b22, B23, hB14, hb24, Fp15, H16, mv17, ap_Fp15_b22, ap_A18_b22, ap2_Fp15_A18, hN26⟩
 have ap_Fp15_b : ¬ Fp15 b := moved_apartP mv17 ap_FpL_b hB.lt
 replace hF := (hF.trNew hN9).loc hO13 (.inr g_b7)
 have gA_Fp15 := gA_movedP hF mv17 gA_FpL
 have ne_b_b22 : NE b b22 := NE.mk (Nat.lt_of_lt_of_le hB.lt hb24)
 have g_b22 := Nat.le_trans hF.size hb24
 have ap_A18_b : Apart A18 b := new_apart hA21 hB.lt
 have gA_A18 := gA_new hF hA21
 have gN_A18 := fun g (hg : inA A18 g) => Nat.le_trans hF.size (hA21 g hg)
 clear hL
 replace hB := hB14
 clear hB14
 have gi_b22 : Fp b22 ∨ w.heap.size ≤ b22 := .inr g_b22
 refine Zm ?_
 refine Zt ?_
 refine Zt ?_
 refine Za ?_
 refine Za ?_
 refine Znn ?_
 refine Zsq ?_
 refine Zsr ?_
 refine Zm ?_
 refine Zv (.bool false) (fun _ fr => x_not rfl (fr.ev rfl) rfl) ?_
 refine Znn ?_
 refine Zcf ?_
 refine Zsk ?_
 refine Znx ?_
 refine Zrg ?_
 refine Zm ?_
 refine Za ?_
 refine Znn ?_
 refine Zsr ?_
 refine Zm ?_
 refine Zm ?_
 refine Zm ?_
 refine Zv (.agg (#[.int .u32 line, .bool false])) (fun a fr => x_build (cells := #[.int .u32 line, .bool false]) rfl (by simp only [List.map_toArray, List.map_cons, List.map_nil, show a.eval (.tmp 77) = .int .u32 line from fr.ev rfl, show a.eval (.tmp 78) = .bool false from fr.ev rfl]; kernel_rfl)) ?_
 refine Znb (cs := #[.int .u32 line, .bool false]) fun b27 w28 hN29 B30 hb31 => ?_
 have ne_b_b27 : NE b b27 := NE.mk (Nat.lt_of_lt_of_le hB.lt hb31)
 have ap_A18_b27 : Apart A18 b27 := O20.apart hb31
 have ne_b22_b27 : NE b22 b27 := NE.mk (Nat.lt_of_lt_of_le B23.lt hb31)
 have ap_Fp15_b27 : ¬ Fp15 b27 := H16.apart hb31
 replace hF := hF.locS hN26 (fun i => (fun h => h.elim (fun e => by rw [e]; exact (.inl ((hP.foot b).2 (.inl rfl)))) (fun h => gA_FpL i h)))
 have g_b27 := Nat.le_trans hF.size hb31
 refine Zn ?_
 refine Zf fo83_2 ?_
 replace hB := hB.new hN29
 refine Zs1 (cs' := #[.int .i64 id, .pointer (some ⟨lb, 0, none⟩), .pointer (some ⟨b27, 0, none⟩), .pointer (some ⟨b22, 0, none⟩)]) sz80 hB (show 2 < 4 by decide) rfl fun w32 hO33 hBq => ?_
 replace hB := hBq
 clear hBq
 refine Znn ?_
 refine Zsr ?_
 refine Za ?_
 refine Znn ?_
 refine Zsq ?_
 refine Zsr ?_
 refine Zm ?_
 refine Znn ?_
 refine Zcf ?_
 refine Zsk ?_
 refine Znx ?_
 refine Zsr ?_
 refine Zm ?_
 refine Zm ?_
 refine Zm ?_
 refine Zm ?_
 refine Zk (args := #[.pointer (some ⟨b, 0, none⟩), .int .i64 1, .int .u32 line]) cf47 (msg_c hB 1 line (by omega)) ?_
 rintro v w34 ⟨rfl, hN35⟩
 intro a fr
 refine fx_build1 (E := msgE) (p := (mkM 1 id 4 line)) elMsg (by decide) fr rfl rfl (by decide) rfl (fr.ev rfl) ?_
 clear fr a
 intro A36 w37 hN38 O39 hA40
 intro a fr
 replace O20 := (((O20.new hN29).only hO33 (Apart.ne1 ap_A18_b)).new hN35).new hN38
 refine fx_append (E := msgE) (l := [putM id vx]) (l' := [(mkM 1 id 4 line)]) elMsg fr rfl rfl (by decide) rfl (fr.ev rfl) (fr.ev rfl) (by first | rfl | (simp; done) | (simp; omega)) (by first | rfl | (simp; done) | (simp; omega)) O20 O39.view (by first | omega | (simp only [List.length_append, List.length_cons, List.length_nil, List.nil_append]; omega)) (by first | (unfold maxLen; done) | (unfold maxLen; first | omega | (simp; done) | (simp; omega))) ?_
 clear fr a
 intro A41 cap42 w43 O44 hO45 mv46
 replace hF := (((hF.trNew hN29).loc hO33 (.inl ((hP.foot b).2 (.inl rfl)))).trNew hN35).trNew hN38
 have gN_A41 := fun g (hg : inA A41 g) => (mv46 g hg).elim (gN_A18 g) (fun h => Nat.le_trans hF.size h)
 clear O20
 refine Za ?_
 refine Za ?_
 refine Znn ?_
 refine Zrt ?_
 refine Zre rfl [_, _] ⟨rfl, rfl, trivial⟩ ?_
 have gi_b27 : Fp b27 ∨ w.heap.size ≤ b27 := .inr g_b27
 replace B23 := ((((B23.new hN29).only hO33 ne_b_b22.symm).new hN35).new hN38).only hO45 ap_A18_b22
 replace H16 := ((((H16.new hN29).only hO33 (ne1P ap_Fp15_b)).new hN35).new hN38).only hO45 (fun g h1 h2 => ap2_Fp15_A18 g h1 h2)
 replace B30 := (((B30.only hO33 ne_b_b27.symm).new hN35).new hN38).only hO45 ap_A18_b27
 replace hB := ((hB.new hN35).new hN38).only hO45 ap_A18_b
 replace hF := hF.locA hO45 gA_A18
 exact ⟨_, rfl, A41, cap42, rfl, O44, gN_A41, (fun k => k = b ∨ Fp15 k ∨ (fun k => k = b27) k ∨ (fun k => k = b22) k), ⟨lb, Fp15, _, _, (fun k => k = b27), (fun k => k = b22), hB, H16, ⟨b27, rfl, B30, fun _ => Iff.rfl, hln⟩, ⟨b22, rfl, B23, fun _ => Iff.rfl⟩, ⟨ap_Fp15_b, (fun e => (show ¬ b = b27 from ne_b_b27) e), (fun e => (show ¬ b = b22 from ne_b_b22) e), (fun k hk e => ap_Fp15_b27 (e ▸ hk)), (fun k hk e => ap_Fp15_b22 (e ▸ hk)), (fun k e e2 => (show ¬ b27 = b22 from ne_b22_b27.symm) (e.symm.trans e2)), fun _ => Iff.rfl⟩⟩, hF, (fun g hg => hg.elim (fun e => by rw [e]; exact .inl ((hP.foot b).2 (.inl rfl))) fun h => h.elim (gA_Fp15 g) fun h => h.elim (fun e => by rw [e]; exact gi_b27) (fun e => by rw [e]; exact gi_b22))⟩
set_option maxRecDepth 100000 in
set_option maxHeartbeats 4000000 in
theorem ask_trs {w : World} {Fp : Nat → Prop} {b : Nat} {id : Int} {n : Nat} {ways : Int} {L : List Ln} {gx : Ln} (H : CacheAt w Fp b ⟨id, n, ways, L, none, (some gx)⟩) (line : Int) (hln : 0 ≤ line ∧ line < 4294967296) (pick : Int) (hg : ¬ gx.num = line) (hs : stateOf L line ≠ 0)  : Calls Try.prog 13 #[.pointer (some ⟨b, 0, none⟩), .int .u32 line, .bool false, .int .i64 pick] w (Ret fun v w' => v = .tuple #[.slice none 0 0, .int .i64 231] ∧ New w w') := by
 obtain ⟨lb, FpL, pa, pg, FpA, FpG, hB, hL, hA, hG, hP⟩ := H
 dsimp only at hB hL hA hG
 have ap_FpL_b := hP.lb
 obtain ⟨hn1, hn2, hw1, hw2⟩ := hL.bd
 have gA_FpG := fun g (hg : FpG g) => (Or.inl trivial : True ∨ w.heap.size ≤ g)
 have hF := Only.refl (fun _ => False) w
 refine Zen 91 Try.func13 ?_
 refine Zsr ?_
 refine Za ?_
 refine Za ?_
 refine Znn ?_
 refine Zsq ?_
 refine Zsr ?_
 refine Zm ?_
 refine Zk cf43 (cnone_c hB) ?_
 rintro v w9 ⟨rfl, hw9⟩
 obtain rfl := hw9.symm
 refine Znn ?_
 refine Zcf ?_
 refine Zsk ?_
 refine Znx ?_
 refine Zsr ?_
 refine Zm ?_
 refine Zm ?_
 refine Zk (args := #[.pointer (some ⟨b, 0, none⟩), .int .u32 line]) cf34 (state_c line (by omega) hB hL ap_FpL_b) ?_
 rintro v w3 ⟨rfl, hN4⟩
 refine Za ?_
 refine Znn ?_
 refine Zsq ?_
 refine Zbl ?_
 refine Zsq ?_
 replace hA := hA.new hN4
 obtain ⟨rfl, hA0⟩ := hA
 replace hG := hG.new hN4
 obtain ⟨bg, rfl, hGB, hGF⟩ := hG
 have gi_bg := gA_FpG bg ((hGF bg).2 rfl)
 refine Zrg ?_
 refine Zm ?_
 refine Zn ?_
 refine Zf fo83_2 ?_
 replace hB := hB.new hN4
 refine Zd pl80 (hB.cell 2 rfl) ?_
 refine Zv (.bool false) (fun _ fr => x_pneq Try.underlying80 rfl (fr.ev rfl) rfl rfl) ?_
 refine Zm ?_
 refine Zm ?_
 refine Zn ?_
 refine Zf fo83_3 ?_
 refine Zd pl81 (hB.cell 3 rfl) ?_
 refine Zv (.bool true) (fun _ fr => x_pneq Try.underlying81 rfl (fr.ev rfl) rfl rfl) ?_
 refine Zm ?_
 refine Zm ?_
 refine Zn ?_
 refine Zf fo83_3 ?_
 refine Zd pl81 (hB.cell 3 rfl) ?_
 refine Zn ?_
 refine Zf fo39_0 ?_
 refine Zd (v := .int .u32 gx.num) pl32 (hGB.cell 0 rfl) ?_
 refine Zm ?_
 refine Zv (.bool false) (fun _ fr => x_eql rfl (fr.ev rfl) (fr.ev rfl) (decide_eq_false hg)) ?_
 refine Zpt ?_
 refine Zpf ?_
 refine Za ?_
 refine Znn ?_
 refine Zcf ?_
 refine Zsr ?_
 refine Zm ?_
 refine Zv (.bool true) (fun _ fr => x_neq rfl (fr.ev rfl) rfl (decide_eq_true hs)) ?_
 refine Zm ?_
 refine Zm ?_
 refine Zv (.bool true) (fun _ fr => x_not rfl (fr.ev rfl) rfl) ?_
 refine Zm ?_
 refine Zs ?_
 refine Zs ?_
 refine Zpt ?_
 refine Zpt ?_
 refine Za ?_
 refine Znn ?_
 refine Zct ?_
 refine Zsr ?_
 refine Za ?_
 refine Za ?_
 refine Znn ?_
 refine Zrt ?_
 refine Zr2 ?_
 refine Zr1 ?_
 refine Zre rfl [_, _] ⟨rfl, rfl, trivial⟩ ?_
 replace hF := hF.trNew hN4
 exact ⟨_, rfl, rfl, hF⟩
set_option maxRecDepth 100000 in
set_option maxHeartbeats 4000000 in
theorem ask_nr0s {w : World} {Fp : Nat → Prop} {b : Nat} {id : Int} {n : Nat} {ways : Int} {L : List Ln} {gx : Ln} (H : CacheAt w Fp b ⟨id, n, ways, L, none, (some gx)⟩) (line : Int) (hln : 0 ≤ line ∧ line < 4294967296) (pick : Int) (hg : ¬ gx.num = line) (hs : ¬ stateOf L line ≠ 0) (hv : vicL n ways L line pick = none) : Calls Try.prog 13 #[.pointer (some ⟨b, 0, none⟩), .int .u32 line, .bool false, .int .i64 pick] w (Ret fun v w' => ∃ A' cap', v = .tuple #[.slice A' ([askM id line false hln]).length cap', .int .i64 0] ∧ Own msgE w' A' cap' ([askM id line false hln]) ∧ (∀ g, inA A' g → w.heap.size ≤ g) ∧ ∃ Fp', CacheAt w' Fp' b ⟨id, n, ways, L, (some (line, false)), (some gx)⟩ ∧ Only Fp w w' ∧ ∀ g, Fp' g → Fp g ∨ w.heap.size ≤ g) := by
 obtain ⟨lb, FpL, pa, pg, FpA, FpG, hB, hL, hA, hG, hP⟩ := H
 dsimp only at hB hL hA hG
 have ap_FpL_b := hP.lb
 have ap_FpG_b := hP.gb
 have ap2_FpL_FpG := hP.lg
 obtain ⟨hn1, hn2, hw1, hw2⟩ := hL.bd
 have gA_FpL : ∀ g, FpL g → Fp g ∨ w.heap.size ≤ g := fun g hg => .inl ((hP.foot g).2 (.inr (.inl hg)))
 have gA_FpG : ∀ g, FpG g → Fp g ∨ w.heap.size ≤ g := fun g hg => .inl ((hP.foot g).2 (.inr (.inr (.inr hg))))
 have hF := Only.refl (Fp) w
 refine Zen 91 Try.func13 ?_
 refine Zsr ?_
 refine Za ?_
 refine Za ?_
 refine Znn ?_
 refine Zsq ?_
 refine Zsr ?_
 refine Zm ?_
 refine Zk cf43 (cnone_c hB) ?_
 rintro v w9 ⟨rfl, hw9⟩
 obtain rfl := hw9.symm
 refine Znn ?_
 refine Zcf ?_
 refine Zsk ?_
 refine Znx ?_
 refine Zsr ?_
 refine Zm ?_
 refine Zm ?_
 refine Zk (args := #[.pointer (some ⟨b, 0, none⟩), .int .u32 line]) cf34 (state_c line (by omega) hB hL ap_FpL_b) ?_
 rintro v w3 ⟨rfl, hN4⟩
 refine Za ?_
 refine Znn ?_
 refine Zsq ?_
 refine Zbl ?_
 refine Zsq ?_
 replace hA := hA.new hN4
 obtain ⟨rfl, hA0⟩ := hA
 replace hG := hG.new hN4
 obtain ⟨bg, rfl, hGB, hGF⟩ := hG
 have ne_bg_b : NE bg b := fun e => ap_FpG_b (e ▸ (hGF bg).2 rfl)
 have ap_FpL_bg : ¬ FpL bg := fun h => ap2_FpL_FpG bg h ((hGF bg).2 rfl)
 have gi_bg := gA_FpG bg ((hGF bg).2 rfl)
 refine Zrg ?_
 refine Zm ?_
 refine Zn ?_
 refine Zf fo83_2 ?_
 replace hB := hB.new hN4
 refine Zd pl80 (hB.cell 2 rfl) ?_
 refine Zv (.bool false) (fun _ fr => x_pneq Try.underlying80 rfl (fr.ev rfl) rfl rfl) ?_
 refine Zm ?_
 refine Zm ?_
 refine Zn ?_
 refine Zf fo83_3 ?_
 refine Zd pl81 (hB.cell 3 rfl) ?_
 refine Zv (.bool true) (fun _ fr => x_pneq Try.underlying81 rfl (fr.ev rfl) rfl rfl) ?_
 refine Zm ?_
 refine Zm ?_
 refine Zn ?_
 refine Zf fo83_3 ?_
 refine Zd pl81 (hB.cell 3 rfl) ?_
 refine Zn ?_
 refine Zf fo39_0 ?_
 refine Zd (v := .int .u32 gx.num) pl32 (hGB.cell 0 rfl) ?_
 refine Zm ?_
 refine Zv (.bool false) (fun _ fr => x_eql rfl (fr.ev rfl) (fr.ev rfl) (decide_eq_false hg)) ?_
 refine Zpt ?_
 refine Zpf ?_
 refine Za ?_
 refine Znn ?_
 refine Zcf ?_
 refine Zsr ?_
 refine Zm ?_
 refine Zv (.bool false) (fun _ fr => x_neq rfl (fr.ev rfl) rfl (decide_eq_false hs)) ?_
 refine Zm ?_
 refine Zs ?_
 refine Zs ?_
 refine Zs ?_
 refine Zs ?_
 refine Zs ?_
 refine Zs ?_
 refine Zpf ?_
 refine Za ?_
 refine Znn ?_
 refine Zcf ?_
 refine Zsk ?_
 refine Zb ?_
 refine Znx ?_
 refine Zsq ?_
 refine Zsr ?_
 refine Zm ?_
 refine Zn ?_
 refine Zf fo83_1 ?_
 refine Zd pl79 (hB.cell 1 rfl) ?_
 refine Zm ?_
 refine Zm ?_
 replace hL := hL.new hN4
 refine Zk (args := #[.pointer (some ⟨lb, 0, none⟩), .int .u32 line, .int .i64 pick]) cf45 (victim_c line (by omega) pick hL) ?_
 rintro v w5 ⟨rfl, hN6⟩
 intro a fr
 rw [hv] at fr
 simp only [Option.getD_none, Option.isSome_none] at fr
 revert a
 refine Zm ?_
 refine Zt ?_
 refine Zt ?_
 refine Zna (z := zv1) (cs := lnE.arr ln0) (by kernel_rfl) fun b7 w8 hN9 B10 hb11 => ?_
 replace hB := hB.new hN6
 have ne_b_b7 : NE b b7 := NE.mk (Nat.lt_of_lt_of_le hB.lt hb11)
 replace hL := hL.new hN6
 have ap_FpL_b7 : ¬ FpL b7 := hL.apart hb11
 replace hGB := hGB.new hN6
 have ne_bg_b7 : NE bg b7 := NE.mk (Nat.lt_of_lt_of_le hGB.lt hb11)
 replace hF := (hF.trNew hN4).trNew hN6
 have g_b7 := Nat.le_trans hF.size hb11
 refine ZsS sz39 (lnE.all _) B10 (lnE.size _) (lnE.size _) fun w12 hO13 hBq => ?_
 clear hBq
 refine Za ?_
 refine Znn ?_
 refine Zsr ?_
 refine Zm ?_
 refine Znn ?_
 refine Zcf ?_
 refine Zsk ?_
 refine Znx ?_
 refine Zsr ?_
 refine Zm ?_
 refine Zm ?_
 refine Zm ?_
 refine Zv (.agg (#[.int .u32 line, .bool false])) (fun a fr => x_build (cells := #[.int .u32 line, .bool false]) rfl (by simp only [List.map_toArray, List.map_cons, List.map_nil, show a.eval (.tmp 77) = .int .u32 line from fr.ev rfl, show a.eval (.tmp 78) = .bool false from fr.ev rfl]; kernel_rfl)) ?_
 refine Znb (cs := #[.int .u32 line, .bool false]) fun b14 w15 hN16 B17 hb18 => ?_
 replace hB := (hB.new hN9).only hO13 ne_b_b7
 have ne_b_b14 : NE b b14 := NE.mk (Nat.lt_of_lt_of_le hB.lt hb18)
 replace hL := (hL.new hN9).only hO13 (ne1P ap_FpL_b7)
 have ap_FpL_b14 : ¬ FpL b14 := hL.apart hb18
 replace hGB := (hGB.new hN9).only hO13 ne_bg_b7
 have ne_bg_b14 : NE bg b14 := NE.mk (Nat.lt_of_lt_of_le hGB.lt hb18)
 replace hF := (hF.trNew hN9).loc hO13 (.inr g_b7)
 have g_b14 := Nat.le_trans hF.size hb18
 refine Zn ?_
 refine Zf fo83_2 ?_
 replace hB := hB.new hN16
 refine Zs1 (cs' := #[.int .i64 id, .pointer (some ⟨lb, 0, none⟩), .pointer (some ⟨b14, 0, none⟩), .pointer (some ⟨bg, 0, none⟩)]) sz80 hB (show 2 < 4 by decide) rfl fun w19 hO20 hBq => ?_
 replace hB := hBq
 clear hBq
 refine Znn ?_
 refine Zsr ?_
 refine Za ?_
 refine Znn ?_
 refine Zsq ?_
 refine Zsr ?_
 refine Zm ?_
 refine Znn ?_
 refine Zcf ?_
 refine Zsk ?_
 refine Znx ?_
 refine Zsr ?_
 refine Zm ?_
 refine Zm ?_
 refine Zm ?_
 refine Zm ?_
 refine Zk (args := #[.pointer (some ⟨b, 0, none⟩), .int .i64 1, .int .u32 line]) cf47 (msg_c hB 1 line (by omega)) ?_
 rintro v w21 ⟨rfl, hN22⟩
 intro a fr
 refine fx_build1 (E := msgE) (p := (mkM 1 id 4 line)) elMsg (by decide) fr rfl rfl (by decide) rfl (fr.ev rfl) ?_
 clear fr a
 intro A23 w24 hN25 O26 hA27
 intro a fr
 refine fx_append (E := msgE) (l := []) (l' := [(mkM 1 id 4 line)]) elMsg fr rfl rfl (by decide) rfl (fr.ev rfl) (fr.ev rfl) (by first | rfl | (simp; done) | (simp; omega)) (by first | rfl | (simp; done) | (simp; omega)) Own.nil O26.view (by first | omega | (simp only [List.length_append, List.length_cons, List.length_nil, List.nil_append]; omega)) (by first | (unfold maxLen; done) | (unfold maxLen; first | omega | (simp; done) | (simp; omega))) ?_
 clear fr a
 intro A28 cap29 w30 O31 hO32 mv33
 replace hF := (((hF.trNew hN16).loc hO20 (.inl ((hP.foot b).2 (.inl rfl)))).trNew hN22).trNew hN25
 have gN_A28 := fun g (hg : inA A28 g) => (mv33 g hg).elim (fun h => absurd h (apart_none g)) (fun h => Nat.le_trans hF.size h)
 replace hO32 := only_none hO32
 refine Za ?_
 refine Za ?_
 refine Znn ?_
 refine Zrt ?_
 refine Zre rfl [_, _] ⟨rfl, rfl, trivial⟩ ?_
 have gi_b14 : Fp b14 ∨ w.heap.size ≤ b14 := .inr g_b14
 replace hL := ((((hL.new hN16).only hO20 (ne1P ap_FpL_b)).new hN22).new hN25).new hO32
 replace hGB := ((((hGB.new hN16).only hO20 ne_bg_b).new hN22).new hN25).new hO32
 replace B17 := (((B17.only hO20 ne_b_b14.symm).new hN22).new hN25).new hO32
 replace hB := ((hB.new hN22).new hN25).new hO32
 replace hF := hF.trNew hO32
 exact ⟨_, rfl, A28, cap29, rfl, O31, gN_A28, (fun k => k = b ∨ FpL k ∨ (fun k => k = b14) k ∨ (fun k => k = bg) k), ⟨lb, FpL, _, _, (fun k => k = b14), (fun k => k = bg), hB, hL, ⟨b14, rfl, B17, fun _ => Iff.rfl, hln⟩, ⟨bg, rfl, hGB, fun _ => Iff.rfl⟩, ⟨ap_FpL_b, (fun e => (show ¬ b = b14 from ne_b_b14) e), (fun e => (show ¬ b = bg from ne_bg_b.symm) e), (fun k hk e => ap_FpL_b14 (e ▸ hk)), (fun k hk e => ap_FpL_bg (e ▸ hk)), (fun k e e2 => (show ¬ b14 = bg from ne_bg_b14.symm) (e.symm.trans e2)), fun _ => Iff.rfl⟩⟩, hF, (fun g hg => hg.elim (fun e => by rw [e]; exact .inl ((hP.foot b).2 (.inl rfl))) fun h => h.elim (gA_FpL g) fun h => h.elim (fun e => by rw [e]; exact gi_b14) (fun e => by rw [e]; exact gi_bg))⟩
set_option maxRecDepth 100000 in
set_option maxHeartbeats 4000000 in
theorem ask_sr0s {w : World} {Fp : Nat → Prop} {b : Nat} {id : Int} {n : Nat} {ways : Int} {L : List Ln} {gx : Ln} (H : CacheAt w Fp b ⟨id, n, ways, L, none, (some gx)⟩) (line : Int) (hln : 0 ≤ line ∧ line < 4294967296) (pick : Int) (hg : ¬ gx.num = line) (hs : ¬ stateOf L line ≠ 0) (vx : Ln) (hv : vicL n ways L line pick = some vx) (hx : vx.state = 1) : Calls Try.prog 13 #[.pointer (some ⟨b, 0, none⟩), .int .u32 line, .bool false, .int .i64 pick] w (Ret fun v w' => ∃ A' cap', v = .tuple #[.slice A' ([askM id line false hln]).length cap', .int .i64 0] ∧ Own msgE w' A' cap' ([askM id line false hln]) ∧ (∀ g, inA A' g → w.heap.size ≤ g) ∧ ∃ Fp', CacheAt w' Fp' b ⟨id, n, ways, dropL L vx.num, (some (line, false)), (some gx)⟩ ∧ Only Fp w w' ∧ ∀ g, Fp' g → Fp g ∨ w.heap.size ≤ g) := by
 obtain ⟨lb, FpL, pa, pg, FpA, FpG, hB, hL, hA, hG, hP⟩ := H
 dsimp only at hB hL hA hG
 have ap_FpL_b := hP.lb
 have ap_FpG_b := hP.gb
 have ap2_FpL_FpG := hP.lg
 obtain ⟨hn1, hn2, hw1, hw2⟩ := hL.bd
 have gA_FpL : ∀ g, FpL g → Fp g ∨ w.heap.size ≤ g := fun g hg => .inl ((hP.foot g).2 (.inr (.inl hg)))
 have gA_FpG : ∀ g, FpG g → Fp g ∨ w.heap.size ≤ g := fun g hg => .inl ((hP.foot g).2 (.inr (.inr (.inr hg))))
 have hF := Only.refl (Fp) w
 refine Zen 91 Try.func13 ?_
 refine Zsr ?_
 refine Za ?_
 refine Za ?_
 refine Znn ?_
 refine Zsq ?_
 refine Zsr ?_
 refine Zm ?_
 refine Zk cf43 (cnone_c hB) ?_
 rintro v w9 ⟨rfl, hw9⟩
 obtain rfl := hw9.symm
 refine Znn ?_
 refine Zcf ?_
 refine Zsk ?_
 refine Znx ?_
 refine Zsr ?_
 refine Zm ?_
 refine Zm ?_
 refine Zk (args := #[.pointer (some ⟨b, 0, none⟩), .int .u32 line]) cf34 (state_c line (by omega) hB hL ap_FpL_b) ?_
 rintro v w3 ⟨rfl, hN4⟩
 refine Za ?_
 refine Znn ?_
 refine Zsq ?_
 refine Zbl ?_
 refine Zsq ?_
 replace hA := hA.new hN4
 obtain ⟨rfl, hA0⟩ := hA
 replace hG := hG.new hN4
 obtain ⟨bg, rfl, hGB, hGF⟩ := hG
 have ne_bg_b : NE bg b := fun e => ap_FpG_b (e ▸ (hGF bg).2 rfl)
 have ap_FpL_bg : ¬ FpL bg := fun h => ap2_FpL_FpG bg h ((hGF bg).2 rfl)
 have gi_bg := gA_FpG bg ((hGF bg).2 rfl)
 refine Zrg ?_
 refine Zm ?_
 refine Zn ?_
 refine Zf fo83_2 ?_
 replace hB := hB.new hN4
 refine Zd pl80 (hB.cell 2 rfl) ?_
 refine Zv (.bool false) (fun _ fr => x_pneq Try.underlying80 rfl (fr.ev rfl) rfl rfl) ?_
 refine Zm ?_
 refine Zm ?_
 refine Zn ?_
 refine Zf fo83_3 ?_
 refine Zd pl81 (hB.cell 3 rfl) ?_
 refine Zv (.bool true) (fun _ fr => x_pneq Try.underlying81 rfl (fr.ev rfl) rfl rfl) ?_
 refine Zm ?_
 refine Zm ?_
 refine Zn ?_
 refine Zf fo83_3 ?_
 refine Zd pl81 (hB.cell 3 rfl) ?_
 refine Zn ?_
 refine Zf fo39_0 ?_
 refine Zd (v := .int .u32 gx.num) pl32 (hGB.cell 0 rfl) ?_
 refine Zm ?_
 refine Zv (.bool false) (fun _ fr => x_eql rfl (fr.ev rfl) (fr.ev rfl) (decide_eq_false hg)) ?_
 refine Zpt ?_
 refine Zpf ?_
 refine Za ?_
 refine Znn ?_
 refine Zcf ?_
 refine Zsr ?_
 refine Zm ?_
 refine Zv (.bool false) (fun _ fr => x_neq rfl (fr.ev rfl) rfl (decide_eq_false hs)) ?_
 refine Zm ?_
 refine Zs ?_
 refine Zs ?_
 refine Zs ?_
 refine Zs ?_
 refine Zs ?_
 refine Zs ?_
 refine Zpf ?_
 refine Za ?_
 refine Znn ?_
 refine Zcf ?_
 refine Zsk ?_
 refine Zb ?_
 refine Znx ?_
 refine Zsq ?_
 refine Zsr ?_
 refine Zm ?_
 refine Zn ?_
 refine Zf fo83_1 ?_
 refine Zd pl79 (hB.cell 1 rfl) ?_
 refine Zm ?_
 refine Zm ?_
 replace hL := hL.new hN4
 refine Zk (args := #[.pointer (some ⟨lb, 0, none⟩), .int .u32 line, .int .i64 pick]) cf45 (victim_c line (by omega) pick hL) ?_
 rintro v w5 ⟨rfl, hN6⟩
 intro a fr
 rw [hv] at fr
 simp only [Option.getD_some, Option.isSome_some] at fr
 revert a
 refine Zm ?_
 refine Zt ?_
 refine Zt ?_
 refine Zna (z := zv1) (cs := lnE.arr ln0) (by kernel_rfl) fun b7 w8 hN9 B10 hb11 => ?_
 replace hB := hB.new hN6
 have ne_b_b7 : NE b b7 := NE.mk (Nat.lt_of_lt_of_le hB.lt hb11)
 replace hL := hL.new hN6
 have ap_FpL_b7 : ¬ FpL b7 := hL.apart hb11
 replace hGB := hGB.new hN6
 have ne_bg_b7 : NE bg b7 := NE.mk (Nat.lt_of_lt_of_le hGB.lt hb11)
 replace hF := (hF.trNew hN4).trNew hN6
 have g_b7 := Nat.le_trans hF.size hb11
 refine ZsS sz39 (lnE.all _) B10 (lnE.size _) (lnE.size _) fun w12 hO13 hBq => ?_
 replace B10 := hBq
 clear hBq
 refine Za ?_
 refine Znn ?_
 refine Zsr ?_
 refine Zm ?_
 refine Znn ?_
 refine Zct ?_
 refine Zsr ?_
 refine Zm ?_
 refine ZE lnE ag39 (B10.rangeE lnE) ?_
 replace hB := (hB.new hN9).only hO13 ne_b_b7
 replace hL := (hL.new hN9).only hO13 (ne1P ap_FpL_b7)
 refine Zk cf46 (out_s hB hL ap_FpL_b vx hx) ?_
 rintro v w18 ⟨rfl, hB14, Fp15, H16, mv17, hN19⟩
 have ap_Fp15_b : ¬ Fp15 b := moved_apartP mv17 ap_FpL_b hB.lt
 replace hGB := (hGB.new hN9).only hO13 ne_bg_b7
 have ap_Fp15_bg : ¬ Fp15 bg := moved_apartP mv17 ap_FpL_bg hGB.lt
 replace hF := (hF.trNew hN9).loc hO13 (.inr g_b7)
 have gA_Fp15 := gA_movedP hF mv17 gA_FpL
 clear hL
 replace hB := hB14
 clear hB14
 refine Zm ?_
 refine Zt ?_
 refine Zt ?_
 refine Za ?_
 refine Za ?_
 refine Znn ?_
 refine Zsq ?_
 refine Zsr ?_
 refine Zm ?_
 refine Zv (.bool false) (fun _ fr => x_not rfl (fr.ev rfl) rfl) ?_
 refine Znn ?_
 refine Zcf ?_
 refine Zsk ?_
 refine Znx ?_
 refine Zrg ?_
 refine Zm ?_
 refine Za ?_
 refine Znn ?_
 refine Zsr ?_
 refine Zm ?_
 refine Zm ?_
 refine Zm ?_
 refine Zv (.agg (#[.int .u32 line, .bool false])) (fun a fr => x_build (cells := #[.int .u32 line, .bool false]) rfl (by simp only [List.map_toArray, List.map_cons, List.map_nil, show a.eval (.tmp 77) = .int .u32 line from fr.ev rfl, show a.eval (.tmp 78) = .bool false from fr.ev rfl]; kernel_rfl)) ?_
 refine Znb (cs := #[.int .u32 line, .bool false]) fun b20 w21 hN22 B23 hb24 => ?_
 replace hGB := hGB.only hN19 (fun h => h.elim ne_bg_b ap_FpL_bg)
 have ne_bg_b20 : NE bg b20 := NE.mk (Nat.lt_of_lt_of_le hGB.lt hb24)
 have ne_b_b20 : NE b b20 := NE.mk (Nat.lt_of_lt_of_le hB.lt hb24)
 have ap_Fp15_b20 : ¬ Fp15 b20 := H16.apart hb24
 replace hF := hF.locS hN19 (fun i => (fun h => h.elim (fun e => by rw [e]; exact (.inl ((hP.foot b).2 (.inl rfl)))) (fun h => gA_FpL i h)))
 have g_b20 := Nat.le_trans hF.size hb24
 refine Zn ?_
 refine Zf fo83_2 ?_
 replace hB := hB.new hN22
 refine Zs1 (cs' := #[.int .i64 id, .pointer (some ⟨lb, 0, none⟩), .pointer (some ⟨b20, 0, none⟩), .pointer (some ⟨bg, 0, none⟩)]) sz80 hB (show 2 < 4 by decide) rfl fun w25 hO26 hBq => ?_
 replace hB := hBq
 clear hBq
 refine Znn ?_
 refine Zsr ?_
 refine Za ?_
 refine Znn ?_
 refine Zsq ?_
 refine Zsr ?_
 refine Zm ?_
 refine Znn ?_
 refine Zcf ?_
 refine Zsk ?_
 refine Znx ?_
 refine Zsr ?_
 refine Zm ?_
 refine Zm ?_
 refine Zm ?_
 refine Zm ?_
 refine Zk (args := #[.pointer (some ⟨b, 0, none⟩), .int .i64 1, .int .u32 line]) cf47 (msg_c hB 1 line (by omega)) ?_
 rintro v w27 ⟨rfl, hN28⟩
 intro a fr
 refine fx_build1 (E := msgE) (p := (mkM 1 id 4 line)) elMsg (by decide) fr rfl rfl (by decide) rfl (fr.ev rfl) ?_
 clear fr a
 intro A29 w30 hN31 O32 hA33
 intro a fr
 refine fx_append (E := msgE) (l := []) (l' := [(mkM 1 id 4 line)]) elMsg fr rfl rfl (by decide) rfl (fr.ev rfl) (fr.ev rfl) (by first | rfl | (simp; done) | (simp; omega)) (by first | rfl | (simp; done) | (simp; omega)) Own.nil O32.view (by first | omega | (simp only [List.length_append, List.length_cons, List.length_nil, List.nil_append]; omega)) (by first | (unfold maxLen; done) | (unfold maxLen; first | omega | (simp; done) | (simp; omega))) ?_
 clear fr a
 intro A34 cap35 w36 O37 hO38 mv39
 replace hF := (((hF.trNew hN22).loc hO26 (.inl ((hP.foot b).2 (.inl rfl)))).trNew hN28).trNew hN31
 have gN_A34 := fun g (hg : inA A34 g) => (mv39 g hg).elim (fun h => absurd h (apart_none g)) (fun h => Nat.le_trans hF.size h)
 replace hO38 := only_none hO38
 refine Za ?_
 refine Za ?_
 refine Znn ?_
 refine Zrt ?_
 refine Zre rfl [_, _] ⟨rfl, rfl, trivial⟩ ?_
 have gi_b20 : Fp b20 ∨ w.heap.size ≤ b20 := .inr g_b20
 replace hGB := ((((hGB.new hN22).only hO26 ne_bg_b).new hN28).new hN31).new hO38
 replace H16 := ((((H16.new hN22).only hO26 (ne1P ap_Fp15_b)).new hN28).new hN31).new hO38
 replace B23 := (((B23.only hO26 ne_b_b20.symm).new hN28).new hN31).new hO38
 replace hB := ((hB.new hN28).new hN31).new hO38
 replace hF := hF.trNew hO38
 exact ⟨_, rfl, A34, cap35, rfl, O37, gN_A34, (fun k => k = b ∨ Fp15 k ∨ (fun k => k = b20) k ∨ (fun k => k = bg) k), ⟨lb, Fp15, _, _, (fun k => k = b20), (fun k => k = bg), hB, H16, ⟨b20, rfl, B23, fun _ => Iff.rfl, hln⟩, ⟨bg, rfl, hGB, fun _ => Iff.rfl⟩, ⟨ap_Fp15_b, (fun e => (show ¬ b = b20 from ne_b_b20) e), (fun e => (show ¬ b = bg from ne_bg_b.symm) e), (fun k hk e => ap_Fp15_b20 (e ▸ hk)), (fun k hk e => ap_Fp15_bg (e ▸ hk)), (fun k e e2 => (show ¬ b20 = bg from ne_bg_b20.symm) (e.symm.trans e2)), fun _ => Iff.rfl⟩⟩, hF, (fun g hg => hg.elim (fun e => by rw [e]; exact .inl ((hP.foot b).2 (.inl rfl))) fun h => h.elim (gA_Fp15 g) fun h => h.elim (fun e => by rw [e]; exact gi_b20) (fun e => by rw [e]; exact gi_bg))⟩
set_option maxRecDepth 100000 in
set_option maxHeartbeats 4000000 in
theorem ask_br0s {w : World} {Fp : Nat → Prop} {b : Nat} {id : Int} {n : Nat} {ways : Int} {L : List Ln} {gx : Ln} (H : CacheAt w Fp b ⟨id, n, ways, L, none, (some gx)⟩) (line : Int) (hln : 0 ≤ line ∧ line < 4294967296) (pick : Int) (hg : ¬ gx.num = line) (hs : ¬ stateOf L line ≠ 0) (vx : Ln) (hv : vicL n ways L line pick = some vx) (hx : ¬ vx.state = 1) : Calls Try.prog 13 #[.pointer (some ⟨b, 0, none⟩), .int .u32 line, .bool false, .int .i64 pick] w (Ret fun v w' => v = .tuple #[.slice none 0 0, .int .i64 230] ∧ New w w') := by
 obtain ⟨lb, FpL, pa, pg, FpA, FpG, hB, hL, hA, hG, hP⟩ := H
 dsimp only at hB hL hA hG
 have ap_FpL_b := hP.lb
 obtain ⟨hn1, hn2, hw1, hw2⟩ := hL.bd
 have gA_FpG := fun g (hg : FpG g) => (Or.inl trivial : True ∨ w.heap.size ≤ g)
 have hF := Only.refl (fun _ => False) w
 refine Zen 91 Try.func13 ?_
 refine Zsr ?_
 refine Za ?_
 refine Za ?_
 refine Znn ?_
 refine Zsq ?_
 refine Zsr ?_
 refine Zm ?_
 refine Zk cf43 (cnone_c hB) ?_
 rintro v w9 ⟨rfl, hw9⟩
 obtain rfl := hw9.symm
 refine Znn ?_
 refine Zcf ?_
 refine Zsk ?_
 refine Znx ?_
 refine Zsr ?_
 refine Zm ?_
 refine Zm ?_
 refine Zk (args := #[.pointer (some ⟨b, 0, none⟩), .int .u32 line]) cf34 (state_c line (by omega) hB hL ap_FpL_b) ?_
 rintro v w3 ⟨rfl, hN4⟩
 refine Za ?_
 refine Znn ?_
 refine Zsq ?_
 refine Zbl ?_
 refine Zsq ?_
 replace hA := hA.new hN4
 obtain ⟨rfl, hA0⟩ := hA
 replace hG := hG.new hN4
 obtain ⟨bg, rfl, hGB, hGF⟩ := hG
 have gi_bg := gA_FpG bg ((hGF bg).2 rfl)
 refine Zrg ?_
 refine Zm ?_
 refine Zn ?_
 refine Zf fo83_2 ?_
 replace hB := hB.new hN4
 refine Zd pl80 (hB.cell 2 rfl) ?_
 refine Zv (.bool false) (fun _ fr => x_pneq Try.underlying80 rfl (fr.ev rfl) rfl rfl) ?_
 refine Zm ?_
 refine Zm ?_
 refine Zn ?_
 refine Zf fo83_3 ?_
 refine Zd pl81 (hB.cell 3 rfl) ?_
 refine Zv (.bool true) (fun _ fr => x_pneq Try.underlying81 rfl (fr.ev rfl) rfl rfl) ?_
 refine Zm ?_
 refine Zm ?_
 refine Zn ?_
 refine Zf fo83_3 ?_
 refine Zd pl81 (hB.cell 3 rfl) ?_
 refine Zn ?_
 refine Zf fo39_0 ?_
 refine Zd (v := .int .u32 gx.num) pl32 (hGB.cell 0 rfl) ?_
 refine Zm ?_
 refine Zv (.bool false) (fun _ fr => x_eql rfl (fr.ev rfl) (fr.ev rfl) (decide_eq_false hg)) ?_
 refine Zpt ?_
 refine Zpf ?_
 refine Za ?_
 refine Znn ?_
 refine Zcf ?_
 refine Zsr ?_
 refine Zm ?_
 refine Zv (.bool false) (fun _ fr => x_neq rfl (fr.ev rfl) rfl (decide_eq_false hs)) ?_
 refine Zm ?_
 refine Zs ?_
 refine Zs ?_
 refine Zs ?_
 refine Zs ?_
 refine Zs ?_
 refine Zs ?_
 refine Zpf ?_
 refine Za ?_
 refine Znn ?_
 refine Zcf ?_
 refine Zsk ?_
 refine Zb ?_
 refine Znx ?_
 refine Zsq ?_
 refine Zsr ?_
 refine Zm ?_
 refine Zn ?_
 refine Zf fo83_1 ?_
 refine Zd pl79 (hB.cell 1 rfl) ?_
 refine Zm ?_
 refine Zm ?_
 replace hL := hL.new hN4
 refine Zk (args := #[.pointer (some ⟨lb, 0, none⟩), .int .u32 line, .int .i64 pick]) cf45 (victim_c line (by omega) pick hL) ?_
 rintro v w5 ⟨rfl, hN6⟩
 intro a fr
 rw [hv] at fr
 simp only [Option.getD_some, Option.isSome_some] at fr
 revert a
 refine Zm ?_
 refine Zt ?_
 refine Zt ?_
 refine Zna (z := zv1) (cs := lnE.arr ln0) (by kernel_rfl) fun b7 w8 hN9 B10 hb11 => ?_
 replace hB := hB.new hN6
 have ne_b_b7 : NE b b7 := NE.mk (Nat.lt_of_lt_of_le hB.lt hb11)
 replace hL := hL.new hN6
 have ap_FpL_b7 : ¬ FpL b7 := hL.apart hb11
 replace hF := (hF.trNew hN4).trNew hN6
 have g_b7 := Nat.le_trans hF.size hb11
 refine ZsS sz39 (lnE.all _) B10 (lnE.size _) (lnE.size _) fun w12 hO13 hBq => ?_
 replace B10 := hBq
 clear hBq
 refine Za ?_
 refine Znn ?_
 refine Zsr ?_
 refine Zm ?_
 refine Znn ?_
 refine Zct ?_
 refine Zsr ?_
 refine Zm ?_
 refine ZE lnE ag39 (B10.rangeE lnE) ?_
 replace hB := (hB.new hN9).only hO13 ne_b_b7
 replace hL := (hL.new hN9).only hO13 (ne1P ap_FpL_b7)
 refine Zk cf46 (out_b hB hL ap_FpL_b vx hx) ?_
 rintro v w14 ⟨rfl, hN15⟩
 refine Zm ?_
 refine Zt ?_
 refine Zt ?_
 refine Za ?_
 refine Za ?_
 refine Znn ?_
 refine Zsq ?_
 refine Zsr ?_
 refine Zm ?_
 refine Zv (.bool true) (fun _ fr => x_not rfl (fr.ev rfl) rfl) ?_
 refine Znn ?_
 refine Zct ?_
 refine Zsr ?_
 refine Za ?_
 refine Za ?_
 refine Znn ?_
 refine Zrt ?_
 refine Zr1 ?_
 refine Zr1 ?_
 refine Zre rfl [_, _] ⟨rfl, rfl, trivial⟩ ?_
 replace hF := ((hF.trNew hN9).loc hO13 (.inr g_b7)).trNew hN15
 exact ⟨_, rfl, rfl, hF⟩
end Go.Proofs.Ytflnlmibkbojcaa
namespace Go.Proofs.Ytflnlmibkbojcaa
open Go.RowKit
set_option maxRecDepth 100000 in
set_option maxHeartbeats 4000000 in
theorem ask_twn {w : World} {Fp : Nat → Prop} {b : Nat} {id : Int} {n : Nat} {ways : Int} {L : List Ln} (H : CacheAt w Fp b ⟨id, n, ways, L, none, none⟩) (line : Int) (hln : 0 ≤ line ∧ line < 4294967296) (pick : Int) (hs : stateOf L line ≠ 0) (hw : writesB (stateOf L line) = true)  : Calls Try.prog 13 #[.pointer (some ⟨b, 0, none⟩), .int .u32 line, .bool true, .int .i64 pick] w (Ret fun v w' => v = .tuple #[.slice none 0 0, .int .i64 231] ∧ New w w') := by
 obtain ⟨lb, FpL, pa, pg, FpA, FpG, hB, hL, hA, hG, hP⟩ := H
 dsimp only at hB hL hA hG
 have ap_FpL_b := hP.lb
 obtain ⟨hn1, hn2, hw1, hw2⟩ := hL.bd
 have hF := Only.refl (fun _ => False) w
 refine Zen 91 Try.func13 ?_
 refine Zsr ?_
 refine Za ?_
 refine Za ?_
 refine Znn ?_
 refine Zsq ?_
 refine Zsr ?_
 refine Zm ?_
 refine Zk cf43 (cnone_c hB) ?_
 rintro v w9 ⟨rfl, hw9⟩
 obtain rfl := hw9.symm
 refine Znn ?_
 refine Zcf ?_
 refine Zsk ?_
 refine Znx ?_
 refine Zsr ?_
 refine Zm ?_
 refine Zm ?_
 refine Zk (args := #[.pointer (some ⟨b, 0, none⟩), .int .u32 line]) cf34 (state_c line (by omega) hB hL ap_FpL_b) ?_
 rintro v w3 ⟨rfl, hN4⟩
 refine Za ?_
 refine Znn ?_
 refine Zsq ?_
 refine Zbl ?_
 refine Zsq ?_
 replace hA := hA.new hN4
 obtain ⟨rfl, hA0⟩ := hA
 replace hG := hG.new hN4
 obtain ⟨rfl, hG0⟩ := hG
 refine Zrg ?_
 refine Zm ?_
 refine Zn ?_
 refine Zf fo83_2 ?_
 replace hB := hB.new hN4
 refine Zd pl80 (hB.cell 2 rfl) ?_
 refine Zv (.bool false) (fun _ fr => x_pneq Try.underlying80 rfl (fr.ev rfl) rfl rfl) ?_
 refine Zm ?_
 refine Zm ?_
 refine Zn ?_
 refine Zf fo83_3 ?_
 refine Zd pl81 (hB.cell 3 rfl) ?_
 refine Zv (.bool false) (fun _ fr => x_pneq Try.underlying81 rfl (fr.ev rfl) rfl rfl) ?_
 refine Zm ?_
 refine Zs ?_
 refine Zs ?_
 refine Zs ?_
 refine Zs ?_
 refine Zs ?_
 refine Zs ?_
 refine Zs ?_
 refine Zs ?_
 refine Zs ?_
 refine Zpf ?_
 refine Zpf ?_
 refine Za ?_
 refine Znn ?_
 refine Zcf ?_
 refine Zsr ?_
 refine Zm ?_
 refine Zv (.bool true) (fun _ fr => x_neq rfl (fr.ev rfl) rfl (decide_eq_true hs)) ?_
 refine Zm ?_
 refine Zm ?_
 refine Zv (.bool false) (fun _ fr => x_not rfl (fr.ev rfl) rfl) ?_
 refine Zm ?_
 refine Zm ?_
 refine Zk cf44 (writes_c (stateOf L line) _) ?_
 rintro v _ ⟨rfl, hw9⟩
 obtain rfl := hw9.symm
 intro a fr
 rw [hw] at fr
 revert a
 refine Zpf ?_
 refine Zpt ?_
 refine Za ?_
 refine Znn ?_
 refine Zct ?_
 refine Zsr ?_
 refine Za ?_
 refine Za ?_
 refine Znn ?_
 refine Zrt ?_
 refine Zr2 ?_
 refine Zr1 ?_
 refine Zre rfl [_, _] ⟨rfl, rfl, trivial⟩ ?_
 replace hF := hF.trNew hN4
 exact ⟨_, rfl, rfl, hF⟩
set_option maxRecDepth 100000 in
set_option maxHeartbeats 4000000 in
theorem ask_nw0n {w : World} {Fp : Nat → Prop} {b : Nat} {id : Int} {n : Nat} {ways : Int} {L : List Ln} (H : CacheAt w Fp b ⟨id, n, ways, L, none, none⟩) (line : Int) (hln : 0 ≤ line ∧ line < 4294967296) (pick : Int) (hs : ¬ stateOf L line ≠ 0) (hv : vicL n ways L line pick = none) : Calls Try.prog 13 #[.pointer (some ⟨b, 0, none⟩), .int .u32 line, .bool true, .int .i64 pick] w (Ret fun v w' => ∃ A' cap', v = .tuple #[.slice A' ([askM id line true hln]).length cap', .int .i64 0] ∧ Own msgE w' A' cap' ([askM id line true hln]) ∧ (∀ g, inA A' g → w.heap.size ≤ g) ∧ ∃ Fp', CacheAt w' Fp' b ⟨id, n, ways, L, (some (line, true)), none⟩ ∧ Only Fp w w' ∧ ∀ g, Fp' g → Fp g ∨ w.heap.size ≤ g) := by
 obtain ⟨lb, FpL, pa, pg, FpA, FpG, hB, hL, hA, hG, hP⟩ := H
 dsimp only at hB hL hA hG
 have ap_FpL_b := hP.lb
 obtain ⟨hn1, hn2, hw1, hw2⟩ := hL.bd
 have gA_FpL : ∀ g, FpL g → Fp g ∨ w.heap.size ≤ g := fun g hg => .inl ((hP.foot g).2 (.inr (.inl hg)))
 have hF := Only.refl (Fp) w
 refine Zen 91 Try.func13 ?_
 refine Zsr ?_
 refine Za ?_
 refine Za ?_
 refine Znn ?_
 refine Zsq ?_
 refine Zsr ?_
 refine Zm ?_
 refine Zk cf43 (cnone_c hB) ?_
 rintro v w9 ⟨rfl, hw9⟩
 obtain rfl := hw9.symm
 refine Znn ?_
 refine Zcf ?_
 refine Zsk ?_
 refine Znx ?_
 refine Zsr ?_
 refine Zm ?_
 refine Zm ?_
 refine Zk (args := #[.pointer (some ⟨b, 0, none⟩), .int .u32 line]) cf34 (state_c line (by omega) hB hL ap_FpL_b) ?_
 rintro v w3 ⟨rfl, hN4⟩
 refine Za ?_
 refine Znn ?_
 refine Zsq ?_
 refine Zbl ?_
 refine Zsq ?_
 replace hA := hA.new hN4
 obtain ⟨rfl, hA0⟩ := hA
 replace hG := hG.new hN4
 obtain ⟨rfl, hG0⟩ := hG
 refine Zrg ?_
 refine Zm ?_
 refine Zn ?_
 refine Zf fo83_2 ?_
 replace hB := hB.new hN4
 refine Zd pl80 (hB.cell 2 rfl) ?_
 refine Zv (.bool false) (fun _ fr => x_pneq Try.underlying80 rfl (fr.ev rfl) rfl rfl) ?_
 refine Zm ?_
 refine Zm ?_
 refine Zn ?_
 refine Zf fo83_3 ?_
 refine Zd pl81 (hB.cell 3 rfl) ?_
 refine Zv (.bool false) (fun _ fr => x_pneq Try.underlying81 rfl (fr.ev rfl) rfl rfl) ?_
 refine Zm ?_
 refine Zs ?_
 refine Zs ?_
 refine Zs ?_
 refine Zs ?_
 refine Zs ?_
 refine Zs ?_
 refine Zs ?_
 refine Zs ?_
 refine Zs ?_
 refine Zpf ?_
 refine Zpf ?_
 refine Za ?_
 refine Znn ?_
 refine Zcf ?_
 refine Zsr ?_
 refine Zm ?_
 refine Zv (.bool false) (fun _ fr => x_neq rfl (fr.ev rfl) rfl (decide_eq_false hs)) ?_
 refine Zm ?_
 refine Zs ?_
 refine Zs ?_
 refine Zs ?_
 refine Zs ?_
 refine Zs ?_
 refine Zs ?_
 refine Zpf ?_
 refine Za ?_
 refine Znn ?_
 refine Zcf ?_
 refine Zsk ?_
 refine Zb ?_
 refine Znx ?_
 refine Zsq ?_
 refine Zsr ?_
 refine Zm ?_
 refine Zn ?_
 refine Zf fo83_1 ?_
 refine Zd pl79 (hB.cell 1 rfl) ?_
 refine Zm ?_
 refine Zm ?_
 replace hL := hL.new hN4
 refine Zk (args := #[.pointer (some ⟨lb, 0, none⟩), .int .u32 line, .int .i64 pick]) cf45 (victim_c line (by omega) pick hL) ?_
 rintro v w5 ⟨rfl, hN6⟩
 intro a fr
 rw [hv] at fr
 simp only [Option.getD_none, Option.isSome_none] at fr
 revert a
 refine Zm ?_
 refine Zt ?_
 refine Zt ?_
 refine Zna (z := zv1) (cs := lnE.arr ln0) (by kernel_rfl) fun b7 w8 hN9 B10 hb11 => ?_
 replace hB := hB.new hN6
 have ne_b_b7 : NE b b7 := NE.mk (Nat.lt_of_lt_of_le hB.lt hb11)
 replace hL := hL.new hN6
 have ap_FpL_b7 : ¬ FpL b7 := hL.apart hb11
 replace hF := (hF.trNew hN4).trNew hN6
 have g_b7 := Nat.le_trans hF.size hb11
 refine ZsS sz39 (lnE.all _) B10 (lnE.size _) (lnE.size _) fun w12 hO13 hBq => ?_
 clear hBq
 refine Za ?_
 refine Znn ?_
 refine Zsr ?_
 refine Zm ?_
 refine Znn ?_
 refine Zcf ?_
 refine Zsk ?_
 refine Znx ?_
 refine Zsr ?_
 refine Zm ?_
 refine Zm ?_
 refine Zm ?_
 refine Zv (.agg (#[.int .u32 line, .bool true])) (fun a fr => x_build (cells := #[.int .u32 line, .bool true]) rfl (by simp only [List.map_toArray, List.map_cons, List.map_nil, show a.eval (.tmp 77) = .int .u32 line from fr.ev rfl, show a.eval (.tmp 78) = .bool true from fr.ev rfl]; kernel_rfl)) ?_
 refine Znb (cs := #[.int .u32 line, .bool true]) fun b14 w15 hN16 B17 hb18 => ?_
 replace hB := (hB.new hN9).only hO13 ne_b_b7
 have ne_b_b14 : NE b b14 := NE.mk (Nat.lt_of_lt_of_le hB.lt hb18)
 replace hL := (hL.new hN9).only hO13 (ne1P ap_FpL_b7)
 have ap_FpL_b14 : ¬ FpL b14 := hL.apart hb18
 replace hF := (hF.trNew hN9).loc hO13 (.inr g_b7)
 have g_b14 := Nat.le_trans hF.size hb18
 refine Zn ?_
 refine Zf fo83_2 ?_
 replace hB := hB.new hN16
 refine Zs1 (cs' := #[.int .i64 id, .pointer (some ⟨lb, 0, none⟩), .pointer (some ⟨b14, 0, none⟩), .pointer none]) sz80 hB (show 2 < 4 by decide) rfl fun w19 hO20 hBq => ?_
 replace hB := hBq
 clear hBq
 refine Znn ?_
 refine Zsr ?_
 refine Za ?_
 refine Znn ?_
 refine Zsq ?_
 refine Zsr ?_
 refine Zm ?_
 refine Znn ?_
 refine Zct ?_
 refine Zrg ?_
 refine Za ?_
 refine Znn ?_
 refine Zsr ?_
 refine Zm ?_
 refine Zm ?_
 refine Zm ?_
 refine Zm ?_
 refine Zk (args := #[.pointer (some ⟨b, 0, none⟩), .int .i64 2, .int .u32 line]) cf47 (msg_c hB 2 line (by omega)) ?_
 rintro v w21 ⟨rfl, hN22⟩
 intro a fr
 refine fx_build1 (E := msgE) (p := (mkM 2 id 4 line)) elMsg (by decide) fr rfl rfl (by decide) rfl (fr.ev rfl) ?_
 clear fr a
 intro A23 w24 hN25 O26 hA27
 intro a fr
 refine fx_append (E := msgE) (l := []) (l' := [(mkM 2 id 4 line)]) elMsg fr rfl rfl (by decide) rfl (fr.ev rfl) (fr.ev rfl) (by first | rfl | (simp; done) | (simp; omega)) (by first | rfl | (simp; done) | (simp; omega)) Own.nil O26.view (by first | omega | (simp only [List.length_append, List.length_cons, List.length_nil, List.nil_append]; omega)) (by first | (unfold maxLen; done) | (unfold maxLen; first | omega | (simp; done) | (simp; omega))) ?_
 clear fr a
 intro A28 cap29 w30 O31 hO32 mv33
 replace hF := (((hF.trNew hN16).loc hO20 (.inl ((hP.foot b).2 (.inl rfl)))).trNew hN22).trNew hN25
 have gN_A28 := fun g (hg : inA A28 g) => (mv33 g hg).elim (fun h => absurd h (apart_none g)) (fun h => Nat.le_trans hF.size h)
 replace hO32 := only_none hO32
 refine Za ?_
 refine Za ?_
 refine Znn ?_
 refine Zrt ?_
 refine Zre rfl [_, _] ⟨rfl, rfl, trivial⟩ ?_
 have gi_b14 : Fp b14 ∨ w.heap.size ≤ b14 := .inr g_b14
 replace hL := ((((hL.new hN16).only hO20 (ne1P ap_FpL_b)).new hN22).new hN25).new hO32
 replace B17 := (((B17.only hO20 ne_b_b14.symm).new hN22).new hN25).new hO32
 replace hB := ((hB.new hN22).new hN25).new hO32
 replace hF := hF.trNew hO32
 exact ⟨_, rfl, A28, cap29, rfl, O31, gN_A28, (fun k => k = b ∨ FpL k ∨ (fun k => k = b14) k ∨ (fun _ => False) k), ⟨lb, FpL, _, _, (fun k => k = b14), (fun _ => False), hB, hL, ⟨b14, rfl, B17, fun _ => Iff.rfl, hln⟩, ⟨rfl, fun _ h => h⟩, ⟨ap_FpL_b, (fun e => (show ¬ b = b14 from ne_b_b14) e), (fun h => h), (fun k hk e => ap_FpL_b14 (e ▸ hk)), (fun _ _ h => h), (fun _ _ h => h), fun _ => Iff.rfl⟩⟩, hF, (fun g hg => hg.elim (fun e => by rw [e]; exact .inl ((hP.foot b).2 (.inl rfl))) fun h => h.elim (gA_FpL g) fun h => h.elim (fun e => by rw [e]; exact gi_b14) (fun h => h.elim))⟩
set_option maxRecDepth 100000 in
set_option maxHeartbeats 4000000 in
theorem ask_sw0n {w : World} {Fp : Nat → Prop} {b : Nat} {id : Int} {n : Nat} {ways : Int} {L : List Ln} (H : CacheAt w Fp b ⟨id, n, ways, L, none, none⟩) (line : Int) (hln : 0 ≤ line ∧ line < 4294967296) (pick : Int) (hs : ¬ stateOf L line ≠ 0) (vx : Ln) (hv : vicL n ways L line pick = some vx) (hx : vx.state = 1) : Calls Try.prog 13 #[.pointer (some ⟨b, 0, none⟩), .int .u32 line, .bool true, .int .i64 pick] w (Ret fun v w' => ∃ A' cap', v = .tuple #[.slice A' ([askM id line true hln]).length cap', .int .i64 0] ∧ Own msgE w' A' cap' ([askM id line true hln]) ∧ (∀ g, inA A' g → w.heap.size ≤ g) ∧ ∃ Fp', CacheAt w' Fp' b ⟨id, n, ways, dropL L vx.num, (some (line, true)), none⟩ ∧ Only Fp w w' ∧ ∀ g, Fp' g → Fp g ∨ w.heap.size ≤ g) := by
 obtain ⟨lb, FpL, pa, pg, FpA, FpG, hB, hL, hA, hG, hP⟩ := H
 dsimp only at hB hL hA hG
 have ap_FpL_b := hP.lb
 obtain ⟨hn1, hn2, hw1, hw2⟩ := hL.bd
 have gA_FpL : ∀ g, FpL g → Fp g ∨ w.heap.size ≤ g := fun g hg => .inl ((hP.foot g).2 (.inr (.inl hg)))
 have hF := Only.refl (Fp) w
 refine Zen 91 Try.func13 ?_
 refine Zsr ?_
 refine Za ?_
 refine Za ?_
 refine Znn ?_
 refine Zsq ?_
 refine Zsr ?_
 refine Zm ?_
 refine Zk cf43 (cnone_c hB) ?_
 rintro v w9 ⟨rfl, hw9⟩
 obtain rfl := hw9.symm
 refine Znn ?_
 refine Zcf ?_
 refine Zsk ?_
 refine Znx ?_
 refine Zsr ?_
 refine Zm ?_
 refine Zm ?_
 refine Zk (args := #[.pointer (some ⟨b, 0, none⟩), .int .u32 line]) cf34 (state_c line (by omega) hB hL ap_FpL_b) ?_
 rintro v w3 ⟨rfl, hN4⟩
 refine Za ?_
 refine Znn ?_
 refine Zsq ?_
 refine Zbl ?_
 refine Zsq ?_
 replace hA := hA.new hN4
 obtain ⟨rfl, hA0⟩ := hA
 replace hG := hG.new hN4
 obtain ⟨rfl, hG0⟩ := hG
 refine Zrg ?_
 refine Zm ?_
 refine Zn ?_
 refine Zf fo83_2 ?_
 replace hB := hB.new hN4
 refine Zd pl80 (hB.cell 2 rfl) ?_
 refine Zv (.bool false) (fun _ fr => x_pneq Try.underlying80 rfl (fr.ev rfl) rfl rfl) ?_
 refine Zm ?_
 refine Zm ?_
 refine Zn ?_
 refine Zf fo83_3 ?_
 refine Zd pl81 (hB.cell 3 rfl) ?_
 refine Zv (.bool false) (fun _ fr => x_pneq Try.underlying81 rfl (fr.ev rfl) rfl rfl) ?_
 refine Zm ?_
 refine Zs ?_
 refine Zs ?_
 refine Zs ?_
 refine Zs ?_
 refine Zs ?_
 refine Zs ?_
 refine Zs ?_
 refine Zs ?_
 refine Zs ?_
 refine Zpf ?_
 refine Zpf ?_
 refine Za ?_
 refine Znn ?_
 refine Zcf ?_
 refine Zsr ?_
 refine Zm ?_
 refine Zv (.bool false) (fun _ fr => x_neq rfl (fr.ev rfl) rfl (decide_eq_false hs)) ?_
 refine Zm ?_
 refine Zs ?_
 refine Zs ?_
 refine Zs ?_
 refine Zs ?_
 refine Zs ?_
 refine Zs ?_
 refine Zpf ?_
 refine Za ?_
 refine Znn ?_
 refine Zcf ?_
 refine Zsk ?_
 refine Zb ?_
 refine Znx ?_
 refine Zsq ?_
 refine Zsr ?_
 refine Zm ?_
 refine Zn ?_
 refine Zf fo83_1 ?_
 refine Zd pl79 (hB.cell 1 rfl) ?_
 refine Zm ?_
 refine Zm ?_
 replace hL := hL.new hN4
 refine Zk (args := #[.pointer (some ⟨lb, 0, none⟩), .int .u32 line, .int .i64 pick]) cf45 (victim_c line (by omega) pick hL) ?_
 rintro v w5 ⟨rfl, hN6⟩
 intro a fr
 rw [hv] at fr
 simp only [Option.getD_some, Option.isSome_some] at fr
 revert a
 refine Zm ?_
 refine Zt ?_
 refine Zt ?_
 refine Zna (z := zv1) (cs := lnE.arr ln0) (by kernel_rfl) fun b7 w8 hN9 B10 hb11 => ?_
 replace hB := hB.new hN6
 have ne_b_b7 : NE b b7 := NE.mk (Nat.lt_of_lt_of_le hB.lt hb11)
 replace hL := hL.new hN6
 have ap_FpL_b7 : ¬ FpL b7 := hL.apart hb11
 replace hF := (hF.trNew hN4).trNew hN6
 have g_b7 := Nat.le_trans hF.size hb11
 refine ZsS sz39 (lnE.all _) B10 (lnE.size _) (lnE.size _) fun w12 hO13 hBq => ?_
 replace B10 := hBq
 clear hBq
 refine Za ?_
 refine Znn ?_
 refine Zsr ?_
 refine Zm ?_
 refine Znn ?_
 refine Zct ?_
 refine Zsr ?_
 refine Zm ?_
 refine ZE lnE ag39 (B10.rangeE lnE) ?_
 replace hB := (hB.new hN9).only hO13 ne_b_b7
 replace hL := (hL.new hN9).only hO13 (ne1P ap_FpL_b7)
 refine Zk cf46 (out_s hB hL ap_FpL_b vx hx) ?_
 rintro v w18 ⟨rfl, hB14, Fp15, H16, mv17, hN19⟩
 have ap_Fp15_b : ¬ Fp15 b := moved_apartP mv17 ap_FpL_b hB.lt
 replace hF := (hF.trNew hN9).loc hO13 (.inr g_b7)
 have gA_Fp15 := gA_movedP hF mv17 gA_FpL
 clear hL
 replace hB := hB14
 clear hB14
 refine Zm ?_
 refine Zt ?_
 refine Zt ?_
 refine Za ?_
 refine Za ?_
 refine Znn ?_
 refine Zsq ?_
 refine Zsr ?_
 refine Zm ?_
 refine Zv (.bool false) (fun _ fr => x_not rfl (fr.ev rfl) rfl) ?_
 refine Znn ?_
 refine Zcf ?_
 refine Zsk ?_
 refine Znx ?_
 refine Zrg ?_
 refine Zm ?_
 refine Za ?_
 refine Znn ?_
 refine Zsr ?_
 refine Zm ?_
 refine Zm ?_
 refine Zm ?_
 refine Zv (.agg (#[.int .u32 line, .bool true])) (fun a fr => x_build (cells := #[.int .u32 line, .bool true]) rfl (by simp only [List.map_toArray, List.map_cons, List.map_nil, show a.eval (.tmp 77) = .int .u32 line from fr.ev rfl, show a.eval (.tmp 78) = .bool true from fr.ev rfl]; kernel_rfl)) ?_
 refine Znb (cs := #[.int .u32 line, .bool true]) fun b20 w21 hN22 B23 hb24 => ?_
 have ne_b_b20 : NE b b20 := NE.mk (Nat.lt_of_lt_of_le hB.lt hb24)
 have ap_Fp15_b20 : ¬ Fp15 b20 := H16.apart hb24
 replace hF := hF.locS hN19 (fun i => (fun h => h.elim (fun e => by rw [e]; exact (.inl ((hP.foot b).2 (.inl rfl)))) (fun h => gA_FpL i h)))
 have g_b20 := Nat.le_trans hF.size hb24
 refine Zn ?_
 refine Zf fo83_2 ?_
 replace hB := hB.new hN22
 refine Zs1 (cs' := #[.int .i64 id, .pointer (some ⟨lb, 0, none⟩), .pointer (some ⟨b20, 0, none⟩), .pointer none]) sz80 hB (show 2 < 4 by decide) rfl fun w25 hO26 hBq => ?_
 replace hB := hBq
 clear hBq
 refine Znn ?_
 refine Zsr ?_
 refine Za ?_
 refine Znn ?_
 refine Zsq ?_
 refine Zsr ?_
 refine Zm ?_
 refine Znn ?_
 refine Zct ?_
 refine Zrg ?_
 refine Za ?_
 refine Znn ?_
 refine Zsr ?_
 refine Zm ?_
 refine Zm ?_
 refine Zm ?_
 refine Zm ?_
 refine Zk (args := #[.pointer (some ⟨b, 0, none⟩), .int .i64 2, .int .u32 line]) cf47 (msg_c hB 2 line (by omega)) ?_
 rintro v w27 ⟨rfl, hN28⟩
 intro a fr
 refine fx_build1 (E := msgE) (p := (mkM 2 id 4 line)) elMsg (by decide) fr rfl rfl (by decide) rfl (fr.ev rfl) ?_
 clear fr a
 intro A29 w30 hN31 O32 hA33
 intro a fr
 refine fx_append (E := msgE) (l := []) (l' := [(mkM 2 id 4 line)]) elMsg fr rfl rfl (by decide) rfl (fr.ev rfl) (fr.ev rfl) (by first | rfl | (simp; done) | (simp; omega)) (by first | rfl | (simp; done) | (simp; omega)) Own.nil O32.view (by first | omega | (simp only [List.length_append, List.length_cons, List.length_nil, List.nil_append]; omega)) (by first | (unfold maxLen; done) | (unfold maxLen; first | omega | (simp; done) | (simp; omega))) ?_
 clear fr a
 intro A34 cap35 w36 O37 hO38 mv39
 replace hF := (((hF.trNew hN22).loc hO26 (.inl ((hP.foot b).2 (.inl rfl)))).trNew hN28).trNew hN31
 have gN_A34 := fun g (hg : inA A34 g) => (mv39 g hg).elim (fun h => absurd h (apart_none g)) (fun h => Nat.le_trans hF.size h)
 replace hO38 := only_none hO38
 refine Za ?_
 refine Za ?_
 refine Znn ?_
 refine Zrt ?_
 refine Zre rfl [_, _] ⟨rfl, rfl, trivial⟩ ?_
 have gi_b20 : Fp b20 ∨ w.heap.size ≤ b20 := .inr g_b20
 replace H16 := ((((H16.new hN22).only hO26 (ne1P ap_Fp15_b)).new hN28).new hN31).new hO38
 replace B23 := (((B23.only hO26 ne_b_b20.symm).new hN28).new hN31).new hO38
 replace hB := ((hB.new hN28).new hN31).new hO38
 replace hF := hF.trNew hO38
 exact ⟨_, rfl, A34, cap35, rfl, O37, gN_A34, (fun k => k = b ∨ Fp15 k ∨ (fun k => k = b20) k ∨ (fun _ => False) k), ⟨lb, Fp15, _, _, (fun k => k = b20), (fun _ => False), hB, H16, ⟨b20, rfl, B23, fun _ => Iff.rfl, hln⟩, ⟨rfl, fun _ h => h⟩, ⟨ap_Fp15_b, (fun e => (show ¬ b = b20 from ne_b_b20) e), (fun h => h), (fun k hk e => ap_Fp15_b20 (e ▸ hk)), (fun _ _ h => h), (fun _ _ h => h), fun _ => Iff.rfl⟩⟩, hF, (fun g hg => hg.elim (fun e => by rw [e]; exact .inl ((hP.foot b).2 (.inl rfl))) fun h => h.elim (gA_Fp15 g) fun h => h.elim (fun e => by rw [e]; exact gi_b20) (fun h => h.elim))⟩
set_option maxRecDepth 100000 in
set_option maxHeartbeats 4000000 in
theorem ask_pw0n {w : World} {Fp : Nat → Prop} {b : Nat} {id : Int} {n : Nat} {ways : Int} {L : List Ln} (H : CacheAt w Fp b ⟨id, n, ways, L, none, none⟩) (line : Int) (hln : 0 ≤ line ∧ line < 4294967296) (pick : Int) (hs : ¬ stateOf L line ≠ 0) (vx : Ln) (hv : vicL n ways L line pick = some vx) (hx : ¬ vx.state = 1) : Calls Try.prog 13 #[.pointer (some ⟨b, 0, none⟩), .int .u32 line, .bool true, .int .i64 pick] w (Ret fun v w' => ∃ A' cap', v = .tuple #[.slice A' ([putM id vx] ++ [askM id line true hln]).length cap', .int .i64 0] ∧ Own msgE w' A' cap' ([putM id vx] ++ [askM id line true hln]) ∧ (∀ g, inA A' g → w.heap.size ≤ g) ∧ ∃ Fp', CacheAt w' Fp' b ⟨id, n, ways, dropL L vx.num, (some (line, true)), (some vx)⟩ ∧ Only Fp w w' ∧ ∀ g, Fp' g → Fp g ∨ w.heap.size ≤ g) := by
 obtain ⟨lb, FpL, pa, pg, FpA, FpG, hB, hL, hA, hG, hP⟩ := H
 dsimp only at hB hL hA hG
 have ap_FpL_b := hP.lb
 obtain ⟨hn1, hn2, hw1, hw2⟩ := hL.bd
 have gA_FpL : ∀ g, FpL g → Fp g ∨ w.heap.size ≤ g := fun g hg => .inl ((hP.foot g).2 (.inr (.inl hg)))
 have hF := Only.refl (Fp) w
 refine Zen 91 Try.func13 ?_
 refine Zsr ?_
 refine Za ?_
 refine Za ?_
 refine Znn ?_
 refine Zsq ?_
 refine Zsr ?_
 refine Zm ?_
 refine Zk cf43 (cnone_c hB) ?_
 rintro v w9 ⟨rfl, hw9⟩
 obtain rfl := hw9.symm
 refine Znn ?_
 refine Zcf ?_
 refine Zsk ?_
 refine Znx ?_
 refine Zsr ?_
 refine Zm ?_
 refine Zm ?_
 refine Zk (args := #[.pointer (some ⟨b, 0, none⟩), .int .u32 line]) cf34 (state_c line (by omega) hB hL ap_FpL_b) ?_
 rintro v w3 ⟨rfl, hN4⟩
 refine Za ?_
 refine Znn ?_
 refine Zsq ?_
 refine Zbl ?_
 refine Zsq ?_
 replace hA := hA.new hN4
 obtain ⟨rfl, hA0⟩ := hA
 replace hG := hG.new hN4
 obtain ⟨rfl, hG0⟩ := hG
 refine Zrg ?_
 refine Zm ?_
 refine Zn ?_
 refine Zf fo83_2 ?_
 replace hB := hB.new hN4
 refine Zd pl80 (hB.cell 2 rfl) ?_
 refine Zv (.bool false) (fun _ fr => x_pneq Try.underlying80 rfl (fr.ev rfl) rfl rfl) ?_
 refine Zm ?_
 refine Zm ?_
 refine Zn ?_
 refine Zf fo83_3 ?_
 refine Zd pl81 (hB.cell 3 rfl) ?_
 refine Zv (.bool false) (fun _ fr => x_pneq Try.underlying81 rfl (fr.ev rfl) rfl rfl) ?_
 refine Zm ?_
 refine Zs ?_
 refine Zs ?_
 refine Zs ?_
 refine Zs ?_
 refine Zs ?_
 refine Zs ?_
 refine Zs ?_
 refine Zs ?_
 refine Zs ?_
 refine Zpf ?_
 refine Zpf ?_
 refine Za ?_
 refine Znn ?_
 refine Zcf ?_
 refine Zsr ?_
 refine Zm ?_
 refine Zv (.bool false) (fun _ fr => x_neq rfl (fr.ev rfl) rfl (decide_eq_false hs)) ?_
 refine Zm ?_
 refine Zs ?_
 refine Zs ?_
 refine Zs ?_
 refine Zs ?_
 refine Zs ?_
 refine Zs ?_
 refine Zpf ?_
 refine Za ?_
 refine Znn ?_
 refine Zcf ?_
 refine Zsk ?_
 refine Zb ?_
 refine Znx ?_
 refine Zsq ?_
 refine Zsr ?_
 refine Zm ?_
 refine Zn ?_
 refine Zf fo83_1 ?_
 refine Zd pl79 (hB.cell 1 rfl) ?_
 refine Zm ?_
 refine Zm ?_
 replace hL := hL.new hN4
 refine Zk (args := #[.pointer (some ⟨lb, 0, none⟩), .int .u32 line, .int .i64 pick]) cf45 (victim_c line (by omega) pick hL) ?_
 rintro v w5 ⟨rfl, hN6⟩
 intro a fr
 rw [hv] at fr
 simp only [Option.getD_some, Option.isSome_some] at fr
 revert a
 refine Zm ?_
 refine Zt ?_
 refine Zt ?_
 refine Zna (z := zv1) (cs := lnE.arr ln0) (by kernel_rfl) fun b7 w8 hN9 B10 hb11 => ?_
 replace hB := hB.new hN6
 have ne_b_b7 : NE b b7 := NE.mk (Nat.lt_of_lt_of_le hB.lt hb11)
 replace hL := hL.new hN6
 have ap_FpL_b7 : ¬ FpL b7 := hL.apart hb11
 replace hF := (hF.trNew hN4).trNew hN6
 have g_b7 := Nat.le_trans hF.size hb11
 refine ZsS sz39 (lnE.all _) B10 (lnE.size _) (lnE.size _) fun w12 hO13 hBq => ?_
 replace B10 := hBq
 clear hBq
 refine Za ?_
 refine Znn ?_
 refine Zsr ?_
 refine Zm ?_
 refine Znn ?_
 refine Zct ?_
 refine Zsr ?_
 refine Zm ?_
 refine ZE lnE ag39 (B10.rangeE lnE) ?_
 replace hB := (hB.new hN9).only hO13 ne_b_b7
 replace hL := (hL.new hN9).only hO13 (ne1P ap_FpL_b7)
 refine Zk cf46 (out_n hB hL ap_FpL_b vx hx) ?_
 rintro v w25 ⟨A18, cap19, rfl, O20, hA21, b22, B23, hB14, hb24, Fp15, H16, mv17, ap_Fp15_b22, ap_A18_b22, ap2_Fp15_A18, hN26⟩
 have ap_Fp15_b : ¬ Fp15 b := moved_apartP mv17 ap_FpL_b hB.lt
 replace hF := (hF.trNew hN9).loc hO13 (.inr g_b7)
 have gA_Fp15 := gA_movedP hF mv17 gA_FpL
 have ne_b_b22 : NE b b22 := NE.mk (Nat.lt_of_lt_of_le hB.lt hb24)
 have g_b22 := Nat.le_trans hF.size hb24
 have ap_A18_b : Apart A18 b := new_apart hA21 hB.lt
 have gA_A18 := gA_new hF hA21
 have gN_A18 := fun g (hg : inA A18 g) => Nat.le_trans hF.size (hA21 g hg)
 clear hL
 replace hB := hB14
 clear hB14
 have gi_b22 : Fp b22 ∨ w.heap.size ≤ b22 := .inr g_b22
 refine Zm ?_
 refine Zt ?_
 refine Zt ?_
 refine Za ?_
 refine Za ?_
 refine Znn ?_
 refine Zsq ?_
 refine Zsr ?_
 refine Zm ?_
 refine Zv (.bool false) (fun _ fr => x_not rfl (fr.ev rfl) rfl) ?_
 refine Znn ?_
 refine Zcf ?_
 refine Zsk ?_
 refine Znx ?_
 refine Zrg ?_
 refine Zm ?_
 refine Za ?_
 refine Znn ?_
 refine Zsr ?_
 refine Zm ?_
 refine Zm ?_
 refine Zm ?_
 refine Zv (.agg (#[.int .u32 line, .bool true])) (fun a fr => x_build (cells := #[.int .u32 line, .bool true]) rfl (by simp only [List.map_toArray, List.map_cons, List.map_nil, show a.eval (.tmp 77) = .int .u32 line from fr.ev rfl, show a.eval (.tmp 78) = .bool true from fr.ev rfl]; kernel_rfl)) ?_
 refine Znb (cs := #[.int .u32 line, .bool true]) fun b27 w28 hN29 B30 hb31 => ?_
 have ne_b_b27 : NE b b27 := NE.mk (Nat.lt_of_lt_of_le hB.lt hb31)
 have ap_A18_b27 : Apart A18 b27 := O20.apart hb31
 have ne_b22_b27 : NE b22 b27 := NE.mk (Nat.lt_of_lt_of_le B23.lt hb31)
 have ap_Fp15_b27 : ¬ Fp15 b27 := H16.apart hb31
 replace hF := hF.locS hN26 (fun i => (fun h => h.elim (fun e => by rw [e]; exact (.inl ((hP.foot b).2 (.inl rfl)))) (fun h => gA_FpL i h)))
 have g_b27 := Nat.le_trans hF.size hb31
 refine Zn ?_
 refine Zf fo83_2 ?_
 replace hB := hB.new hN29
 refine Zs1 (cs' := #[.int .i64 id, .pointer (some ⟨lb, 0, none⟩), .pointer (some ⟨b27, 0, none⟩), .pointer (some ⟨b22, 0, none⟩)]) sz80 hB (show 2 < 4 by decide) rfl fun w32 hO33 hBq => ?_
 replace hB := hBq
 clear hBq
 refine Znn ?_
 refine Zsr ?_
 refine Za ?_
 refine Znn ?_
 refine Zsq ?_
 refine Zsr ?_
 refine Zm ?_
 refine Znn ?_
 refine Zct ?_
 refine Zrg ?_
 refine Za ?_
 refine Znn ?_
 refine Zsr ?_
 refine Zm ?_
 refine Zm ?_
 refine Zm ?_
 refine Zm ?_
 refine Zk (args := #[.pointer (some ⟨b, 0, none⟩), .int .i64 2, .int .u32 line]) cf47 (msg_c hB 2 line (by omega)) ?_
 rintro v w34 ⟨rfl, hN35⟩
 intro a fr
 refine fx_build1 (E := msgE) (p := (mkM 2 id 4 line)) elMsg (by decide) fr rfl rfl (by decide) rfl (fr.ev rfl) ?_
 clear fr a
 intro A36 w37 hN38 O39 hA40
 intro a fr
 replace O20 := (((O20.new hN29).only hO33 (Apart.ne1 ap_A18_b)).new hN35).new hN38
 refine fx_append (E := msgE) (l := [putM id vx]) (l' := [(mkM 2 id 4 line)]) elMsg fr rfl rfl (by decide) rfl (fr.ev rfl) (fr.ev rfl) (by first | rfl | (simp; done) | (simp; omega)) (by first | rfl | (simp; done) | (simp; omega)) O20 O39.view (by first | omega | (simp only [List.length_append, List.length_cons, List.length_nil, List.nil_append]; omega)) (by first | (unfold maxLen; done) | (unfold maxLen; first | omega | (simp; done) | (simp; omega))) ?_
 clear fr a
 intro A41 cap42 w43 O44 hO45 mv46
 replace hF := (((hF.trNew hN29).loc hO33 (.inl ((hP.foot b).2 (.inl rfl)))).trNew hN35).trNew hN38
 have gN_A41 := fun g (hg : inA A41 g) => (mv46 g hg).elim (gN_A18 g) (fun h => Nat.le_trans hF.size h)
 clear O20
 refine Za ?_
 refine Za ?_
 refine Znn ?_
 refine Zrt ?_
 refine Zre rfl [_, _] ⟨rfl, rfl, trivial⟩ ?_
 have gi_b27 : Fp b27 ∨ w.heap.size ≤ b27 := .inr g_b27
 replace B23 := ((((B23.new hN29).only hO33 ne_b_b22.symm).new hN35).new hN38).only hO45 ap_A18_b22
 replace H16 := ((((H16.new hN29).only hO33 (ne1P ap_Fp15_b)).new hN35).new hN38).only hO45 (fun g h1 h2 => ap2_Fp15_A18 g h1 h2)
 replace B30 := (((B30.only hO33 ne_b_b27.symm).new hN35).new hN38).only hO45 ap_A18_b27
 replace hB := ((hB.new hN35).new hN38).only hO45 ap_A18_b
 replace hF := hF.locA hO45 gA_A18
 exact ⟨_, rfl, A41, cap42, rfl, O44, gN_A41, (fun k => k = b ∨ Fp15 k ∨ (fun k => k = b27) k ∨ (fun k => k = b22) k), ⟨lb, Fp15, _, _, (fun k => k = b27), (fun k => k = b22), hB, H16, ⟨b27, rfl, B30, fun _ => Iff.rfl, hln⟩, ⟨b22, rfl, B23, fun _ => Iff.rfl⟩, ⟨ap_Fp15_b, (fun e => (show ¬ b = b27 from ne_b_b27) e), (fun e => (show ¬ b = b22 from ne_b_b22) e), (fun k hk e => ap_Fp15_b27 (e ▸ hk)), (fun k hk e => ap_Fp15_b22 (e ▸ hk)), (fun k e e2 => (show ¬ b27 = b22 from ne_b22_b27.symm) (e.symm.trans e2)), fun _ => Iff.rfl⟩⟩, hF, (fun g hg => hg.elim (fun e => by rw [e]; exact .inl ((hP.foot b).2 (.inl rfl))) fun h => h.elim (gA_Fp15 g) fun h => h.elim (fun e => by rw [e]; exact gi_b27) (fun e => by rw [e]; exact gi_b22))⟩
set_option maxRecDepth 100000 in
set_option maxHeartbeats 4000000 in
theorem ask_nw1n {w : World} {Fp : Nat → Prop} {b : Nat} {id : Int} {n : Nat} {ways : Int} {L : List Ln} (H : CacheAt w Fp b ⟨id, n, ways, L, none, none⟩) (line : Int) (hln : 0 ≤ line ∧ line < 4294967296) (pick : Int) (hs : stateOf L line ≠ 0) (hw : writesB (stateOf L line) = false) (hv : vicL n ways L line pick = none) : Calls Try.prog 13 #[.pointer (some ⟨b, 0, none⟩), .int .u32 line, .bool true, .int .i64 pick] w (Ret fun v w' => ∃ A' cap', v = .tuple #[.slice A' ([askM id line true hln]).length cap', .int .i64 0] ∧ Own msgE w' A' cap' ([askM id line true hln]) ∧ (∀ g, inA A' g → w.heap.size ≤ g) ∧ ∃ Fp', CacheAt w' Fp' b ⟨id, n, ways, L, (some (line, true)), none⟩ ∧ Only Fp w w' ∧ ∀ g, Fp' g → Fp g ∨ w.heap.size ≤ g) := by
 obtain ⟨lb, FpL, pa, pg, FpA, FpG, hB, hL, hA, hG, hP⟩ := H
 dsimp only at hB hL hA hG
 have ap_FpL_b := hP.lb
 obtain ⟨hn1, hn2, hw1, hw2⟩ := hL.bd
 have gA_FpL : ∀ g, FpL g → Fp g ∨ w.heap.size ≤ g := fun g hg => .inl ((hP.foot g).2 (.inr (.inl hg)))
 have hF := Only.refl (Fp) w
 refine Zen 91 Try.func13 ?_
 refine Zsr ?_
 refine Za ?_
 refine Za ?_
 refine Znn ?_
 refine Zsq ?_
 refine Zsr ?_
 refine Zm ?_
 refine Zk cf43 (cnone_c hB) ?_
 rintro v w9 ⟨rfl, hw9⟩
 obtain rfl := hw9.symm
 refine Znn ?_
 refine Zcf ?_
 refine Zsk ?_
 refine Znx ?_
 refine Zsr ?_
 refine Zm ?_
 refine Zm ?_
 refine Zk (args := #[.pointer (some ⟨b, 0, none⟩), .int .u32 line]) cf34 (state_c line (by omega) hB hL ap_FpL_b) ?_
 rintro v w3 ⟨rfl, hN4⟩
 refine Za ?_
 refine Znn ?_
 refine Zsq ?_
 refine Zbl ?_
 refine Zsq ?_
 replace hA := hA.new hN4
 obtain ⟨rfl, hA0⟩ := hA
 replace hG := hG.new hN4
 obtain ⟨rfl, hG0⟩ := hG
 refine Zrg ?_
 refine Zm ?_
 refine Zn ?_
 refine Zf fo83_2 ?_
 replace hB := hB.new hN4
 refine Zd pl80 (hB.cell 2 rfl) ?_
 refine Zv (.bool false) (fun _ fr => x_pneq Try.underlying80 rfl (fr.ev rfl) rfl rfl) ?_
 refine Zm ?_
 refine Zm ?_
 refine Zn ?_
 refine Zf fo83_3 ?_
 refine Zd pl81 (hB.cell 3 rfl) ?_
 refine Zv (.bool false) (fun _ fr => x_pneq Try.underlying81 rfl (fr.ev rfl) rfl rfl) ?_
 refine Zm ?_
 refine Zs ?_
 refine Zs ?_
 refine Zs ?_
 refine Zs ?_
 refine Zs ?_
 refine Zs ?_
 refine Zs ?_
 refine Zs ?_
 refine Zs ?_
 refine Zpf ?_
 refine Zpf ?_
 refine Za ?_
 refine Znn ?_
 refine Zcf ?_
 refine Zsr ?_
 refine Zm ?_
 refine Zv (.bool true) (fun _ fr => x_neq rfl (fr.ev rfl) rfl (decide_eq_true hs)) ?_
 refine Zm ?_
 refine Zm ?_
 refine Zv (.bool false) (fun _ fr => x_not rfl (fr.ev rfl) rfl) ?_
 refine Zm ?_
 refine Zm ?_
 refine Zk cf44 (writes_c (stateOf L line) _) ?_
 rintro v _ ⟨rfl, hw9⟩
 obtain rfl := hw9.symm
 intro a fr
 rw [hw] at fr
 revert a
 refine Zpf ?_
 refine Zpt ?_
 refine Za ?_
 refine Znn ?_
 refine Zcf ?_
 refine Zsk ?_
 refine Zb ?_
 refine Znx ?_
 refine Zsq ?_
 refine Zsr ?_
 refine Zm ?_
 refine Zn ?_
 refine Zf fo83_1 ?_
 refine Zd pl79 (hB.cell 1 rfl) ?_
 refine Zm ?_
 refine Zm ?_
 replace hL := hL.new hN4
 refine Zk (args := #[.pointer (some ⟨lb, 0, none⟩), .int .u32 line, .int .i64 pick]) cf45 (victim_c line (by omega) pick hL) ?_
 rintro v w7 ⟨rfl, hN8⟩
 intro a fr
 rw [hv] at fr
 simp only [Option.getD_none, Option.isSome_none] at fr
 revert a
 refine Zm ?_
 refine Zt ?_
 refine Zt ?_
 refine Zna (z := zv1) (cs := lnE.arr ln0) (by kernel_rfl) fun b9 w10 hN11 B12 hb13 => ?_
 replace hB := hB.new hN8
 have ne_b_b9 : NE b b9 := NE.mk (Nat.lt_of_lt_of_le hB.lt hb13)
 replace hL := hL.new hN8
 have ap_FpL_b9 : ¬ FpL b9 := hL.apart hb13
 replace hF := (hF.trNew hN4).trNew hN8
 have g_b9 := Nat.le_trans hF.size hb13
 refine ZsS sz39 (lnE.all _) B12 (lnE.size _) (lnE.size _) fun w14 hO15 hBq => ?_
 clear hBq
 refine Za ?_
 refine Znn ?_
 refine Zsr ?_
 refine Zm ?_
 refine Znn ?_
 refine Zcf ?_
 refine Zsk ?_
 refine Znx ?_
 refine Zsr ?_
 refine Zm ?_
 refine Zm ?_
 refine Zm ?_
 refine Zv (.agg (#[.int .u32 line, .bool true])) (fun a fr => x_build (cells := #[.int .u32 line, .bool true]) rfl (by simp only [List.map_toArray, List.map_cons, List.map_nil, show a.eval (.tmp 77) = .int .u32 line from fr.ev rfl, show a.eval (.tmp 78) = .bool true from fr.ev rfl]; kernel_rfl)) ?_
 refine Znb (cs := #[.int .u32 line, .bool true]) fun b16 w17 hN18 B19 hb20 => ?_
 replace hB := (hB.new hN11).only hO15 ne_b_b9
 have ne_b_b16 : NE b b16 := NE.mk (Nat.lt_of_lt_of_le hB.lt hb20)
 replace hL := (hL.new hN11).only hO15 (ne1P ap_FpL_b9)
 have ap_FpL_b16 : ¬ FpL b16 := hL.apart hb20
 replace hF := (hF.trNew hN11).loc hO15 (.inr g_b9)
 have g_b16 := Nat.le_trans hF.size hb20
 refine Zn ?_
 refine Zf fo83_2 ?_
 replace hB := hB.new hN18
 refine Zs1 (cs' := #[.int .i64 id, .pointer (some ⟨lb, 0, none⟩), .pointer (some ⟨b16, 0, none⟩), .pointer none]) sz80 hB (show 2 < 4 by decide) rfl fun w21 hO22 hBq => ?_
 replace hB := hBq
 clear hBq
 refine Znn ?_
 refine Zsr ?_
 refine Za ?_
 refine Znn ?_
 refine Zsq ?_
 refine Zsr ?_
 refine Zm ?_
 refine Znn ?_
 refine Zct ?_
 refine Zrg ?_
 refine Za ?_
 refine Znn ?_
 refine Zsr ?_
 refine Zm ?_
 refine Zm ?_
 refine Zm ?_
 refine Zm ?_
 refine Zk (args := #[.pointer (some ⟨b, 0, none⟩), .int .i64 2, .int .u32 line]) cf47 (msg_c hB 2 line (by omega)) ?_
 rintro v w23 ⟨rfl, hN24⟩
 intro a fr
 refine fx_build1 (E := msgE) (p := (mkM 2 id 4 line)) elMsg (by decide) fr rfl rfl (by decide) rfl (fr.ev rfl) ?_
 clear fr a
 intro A25 w26 hN27 O28 hA29
 intro a fr
 refine fx_append (E := msgE) (l := []) (l' := [(mkM 2 id 4 line)]) elMsg fr rfl rfl (by decide) rfl (fr.ev rfl) (fr.ev rfl) (by first | rfl | (simp; done) | (simp; omega)) (by first | rfl | (simp; done) | (simp; omega)) Own.nil O28.view (by first | omega | (simp only [List.length_append, List.length_cons, List.length_nil, List.nil_append]; omega)) (by first | (unfold maxLen; done) | (unfold maxLen; first | omega | (simp; done) | (simp; omega))) ?_
 clear fr a
 intro A30 cap31 w32 O33 hO34 mv35
 replace hF := (((hF.trNew hN18).loc hO22 (.inl ((hP.foot b).2 (.inl rfl)))).trNew hN24).trNew hN27
 have gN_A30 := fun g (hg : inA A30 g) => (mv35 g hg).elim (fun h => absurd h (apart_none g)) (fun h => Nat.le_trans hF.size h)
 replace hO34 := only_none hO34
 refine Za ?_
 refine Za ?_
 refine Znn ?_
 refine Zrt ?_
 refine Zre rfl [_, _] ⟨rfl, rfl, trivial⟩ ?_
 have gi_b16 : Fp b16 ∨ w.heap.size ≤ b16 := .inr g_b16
 replace hL := ((((hL.new hN18).only hO22 (ne1P ap_FpL_b)).new hN24).new hN27).new hO34
 replace B19 := (((B19.only hO22 ne_b_b16.symm).new hN24).new hN27).new hO34
 replace hB := ((hB.new hN24).new hN27).new hO34
 replace hF := hF.trNew hO34
 exact ⟨_, rfl, A30, cap31, rfl, O33, gN_A30, (fun k => k = b ∨ FpL k ∨ (fun k => k = b16) k ∨ (fun _ => False) k), ⟨lb, FpL, _, _, (fun k => k = b16), (fun _ => False), hB, hL, ⟨b16, rfl, B19, fun _ => Iff.rfl, hln⟩, ⟨rfl, fun _ h => h⟩, ⟨ap_FpL_b, (fun e => (show ¬ b = b16 from ne_b_b16) e), (fun h => h), (fun k hk e => ap_FpL_b16 (e ▸ hk)), (fun _ _ h => h), (fun _ _ h => h), fun _ => Iff.rfl⟩⟩, hF, (fun g hg => hg.elim (fun e => by rw [e]; exact .inl ((hP.foot b).2 (.inl rfl))) fun h => h.elim (gA_FpL g) fun h => h.elim (fun e => by rw [e]; exact gi_b16) (fun h => h.elim))⟩
set_option maxRecDepth 100000 in
set_option maxHeartbeats 4000000 in
theorem ask_sw1n {w : World} {Fp : Nat → Prop} {b : Nat} {id : Int} {n : Nat} {ways : Int} {L : List Ln} (H : CacheAt w Fp b ⟨id, n, ways, L, none, none⟩) (line : Int) (hln : 0 ≤ line ∧ line < 4294967296) (pick : Int) (hs : stateOf L line ≠ 0) (hw : writesB (stateOf L line) = false) (vx : Ln) (hv : vicL n ways L line pick = some vx) (hx : vx.state = 1) : Calls Try.prog 13 #[.pointer (some ⟨b, 0, none⟩), .int .u32 line, .bool true, .int .i64 pick] w (Ret fun v w' => ∃ A' cap', v = .tuple #[.slice A' ([askM id line true hln]).length cap', .int .i64 0] ∧ Own msgE w' A' cap' ([askM id line true hln]) ∧ (∀ g, inA A' g → w.heap.size ≤ g) ∧ ∃ Fp', CacheAt w' Fp' b ⟨id, n, ways, dropL L vx.num, (some (line, true)), none⟩ ∧ Only Fp w w' ∧ ∀ g, Fp' g → Fp g ∨ w.heap.size ≤ g) := by
 obtain ⟨lb, FpL, pa, pg, FpA, FpG, hB, hL, hA, hG, hP⟩ := H
 dsimp only at hB hL hA hG
 have ap_FpL_b := hP.lb
 obtain ⟨hn1, hn2, hw1, hw2⟩ := hL.bd
 have gA_FpL : ∀ g, FpL g → Fp g ∨ w.heap.size ≤ g := fun g hg => .inl ((hP.foot g).2 (.inr (.inl hg)))
 have hF := Only.refl (Fp) w
 refine Zen 91 Try.func13 ?_
 refine Zsr ?_
 refine Za ?_
 refine Za ?_
 refine Znn ?_
 refine Zsq ?_
 refine Zsr ?_
 refine Zm ?_
 refine Zk cf43 (cnone_c hB) ?_
 rintro v w9 ⟨rfl, hw9⟩
 obtain rfl := hw9.symm
 refine Znn ?_
 refine Zcf ?_
 refine Zsk ?_
 refine Znx ?_
 refine Zsr ?_
 refine Zm ?_
 refine Zm ?_
 refine Zk (args := #[.pointer (some ⟨b, 0, none⟩), .int .u32 line]) cf34 (state_c line (by omega) hB hL ap_FpL_b) ?_
 rintro v w3 ⟨rfl, hN4⟩
 refine Za ?_
 refine Znn ?_
 refine Zsq ?_
 refine Zbl ?_
 refine Zsq ?_
 replace hA := hA.new hN4
 obtain ⟨rfl, hA0⟩ := hA
 replace hG := hG.new hN4
 obtain ⟨rfl, hG0⟩ := hG
 refine Zrg ?_
 refine Zm ?_
 refine Zn ?_
 refine Zf fo83_2 ?_
 replace hB := hB.new hN4
 refine Zd pl80 (hB.cell 2 rfl) ?_
 refine Zv (.bool false) (fun _ fr => x_pneq Try.underlying80 rfl (fr.ev rfl) rfl rfl) ?_
 refine Zm ?_
 refine Zm ?_
 refine Zn ?_
 refine Zf fo83_3 ?_
 refine Zd pl81 (hB.cell 3 rfl) ?_
 refine Zv (.bool false) (fun _ fr => x_pneq Try.underlying81 rfl (fr.ev rfl) rfl rfl) ?_
 refine Zm ?_
 refine Zs ?_
 refine Zs ?_
 refine Zs ?_
 refine Zs ?_
 refine Zs ?_
 refine Zs ?_
 refine Zs ?_
 refine Zs ?_
 refine Zs ?_
 refine Zpf ?_
 refine Zpf ?_
 refine Za ?_
 refine Znn ?_
 refine Zcf ?_
 refine Zsr ?_
 refine Zm ?_
 refine Zv (.bool true) (fun _ fr => x_neq rfl (fr.ev rfl) rfl (decide_eq_true hs)) ?_
 refine Zm ?_
 refine Zm ?_
 refine Zv (.bool false) (fun _ fr => x_not rfl (fr.ev rfl) rfl) ?_
 refine Zm ?_
 refine Zm ?_
 refine Zk cf44 (writes_c (stateOf L line) _) ?_
 rintro v _ ⟨rfl, hw9⟩
 obtain rfl := hw9.symm
 intro a fr
 rw [hw] at fr
 revert a
 refine Zpf ?_
 refine Zpt ?_
 refine Za ?_
 refine Znn ?_
 refine Zcf ?_
 refine Zsk ?_
 refine Zb ?_
 refine Znx ?_
 refine Zsq ?_
 refine Zsr ?_
 refine Zm ?_
 refine Zn ?_
 refine Zf fo83_1 ?_
 refine Zd pl79 (hB.cell 1 rfl) ?_
 refine Zm ?_
 refine Zm ?_
 replace hL := hL.new hN4
 refine Zk (args := #[.pointer (some ⟨lb, 0, none⟩), .int .u32 line, .int .i64 pick]) cf45 (victim_c line (by omega) pick hL) ?_
 rintro v w7 ⟨rfl, hN8⟩
 intro a fr
 rw [hv] at fr
 simp only [Option.getD_some, Option.isSome_some] at fr
 revert a
 refine Zm ?_
 refine Zt ?_
 refine Zt ?_
 refine Zna (z := zv1) (cs := lnE.arr ln0) (by kernel_rfl) fun b9 w10 hN11 B12 hb13 => ?_
 replace hB := hB.new hN8
 have ne_b_b9 : NE b b9 := NE.mk (Nat.lt_of_lt_of_le hB.lt hb13)
 replace hL := hL.new hN8
 have ap_FpL_b9 : ¬ FpL b9 := hL.apart hb13
 replace hF := (hF.trNew hN4).trNew hN8
 have g_b9 := Nat.le_trans hF.size hb13
 refine ZsS sz39 (lnE.all _) B12 (lnE.size _) (lnE.size _) fun w14 hO15 hBq => ?_
 replace B12 := hBq
 clear hBq
 refine Za ?_
 refine Znn ?_
 refine Zsr ?_
 refine Zm ?_
 refine Znn ?_
 refine Zct ?_
 refine Zsr ?_
 refine Zm ?_
 refine ZE lnE ag39 (B12.rangeE lnE) ?_
 replace hB := (hB.new hN11).only hO15 ne_b_b9
 replace hL := (hL.new hN11).only hO15 (ne1P ap_FpL_b9)
 refine Zk cf46 (out_s hB hL ap_FpL_b vx hx) ?_
 rintro v w20 ⟨rfl, hB16, Fp17, H18, mv19, hN21⟩
 have ap_Fp17_b : ¬ Fp17 b := moved_apartP mv19 ap_FpL_b hB.lt
 replace hF := (hF.trNew hN11).loc hO15 (.inr g_b9)
 have gA_Fp17 := gA_movedP hF mv19 gA_FpL
 clear hL
 replace hB := hB16
 clear hB16
 refine Zm ?_
 refine Zt ?_
 refine Zt ?_
 refine Za ?_
 refine Za ?_
 refine Znn ?_
 refine Zsq ?_
 refine Zsr ?_
 refine Zm ?_
 refine Zv (.bool false) (fun _ fr => x_not rfl (fr.ev rfl) rfl) ?_
 refine Znn ?_
 refine Zcf ?_
 refine Zsk ?_
 refine Znx ?_
 refine Zrg ?_
 refine Zm ?_
 refine Za ?_
 refine Znn ?_
 refine Zsr ?_
 refine Zm ?_
 refine Zm ?_
 refine Zm ?_
 refine Zv (.agg (#[.int .u32 line, .bool true])) (fun a fr => x_build (cells := #[.int .u32 line, .bool true]) rfl (by simp only [List.map_toArray, List.map_cons, List.map_nil, show a.eval (.tmp 77) = .int .u32 line from fr.ev rfl, show a.eval (.tmp 78) = .bool true from fr.ev rfl]; kernel_rfl)) ?_
 refine Znb (cs := #[.int .u32 line, .bool true]) fun b22 w23 hN24 B25 hb26 => ?_
 have ne_b_b22 : NE b b22 := NE.mk (Nat.lt_of_lt_of_le hB.lt hb26)
 have ap_Fp17_b22 : ¬ Fp17 b22 := H18.apart hb26
 replace hF := hF.locS hN21 (fun i => (fun h => h.elim (fun e => by rw [e]; exact (.inl ((hP.foot b).2 (.inl rfl)))) (fun h => gA_FpL i h)))
 have g_b22 := Nat.le_trans hF.size hb26
 refine Zn ?_
 refine Zf fo83_2 ?_
 replace hB := hB.new hN24
 refine Zs1 (cs' := #[.int .i64 id, .pointer (some ⟨lb, 0, none⟩), .pointer (some ⟨b22, 0, none⟩), .pointer none]) sz80 hB (show 2 < 4 by decide) rfl fun w27 hO28 hBq => ?_
 replace hB := hBq
 clear hBq
 refine Znn ?_
 refine Zsr ?_
 refine Za ?_
 refine Znn ?_
 refine Zsq ?_
 refine Zsr ?_
 refine Zm ?_
 refine Znn ?_
 refine Zct ?_
 refine Zrg ?_
 refine Za ?_
 refine Znn ?_
 refine Zsr ?_
 refine Zm ?_
 refine Zm ?_
 refine Zm ?_
 refine Zm ?_
 refine Zk (args := #[.pointer (some ⟨b, 0, none⟩), .int .i64 2, .int .u32 line]) cf47 (msg_c hB 2 line (by omega)) ?_
 rintro v w29 ⟨rfl, hN30⟩
 intro a fr
 refine fx_build1 (E := msgE) (p := (mkM 2 id 4 line)) elMsg (by decide) fr rfl rfl (by decide) rfl (fr.ev rfl) ?_
 clear fr a
 intro A31 w32 hN33 O34 hA35
 intro a fr
 refine fx_append (E := msgE) (l := []) (l' := [(mkM 2 id 4 line)]) elMsg fr rfl rfl (by decide) rfl (fr.ev rfl) (fr.ev rfl) (by first | rfl | (simp; done) | (simp; omega)) (by first | rfl | (simp; done) | (simp; omega)) Own.nil O34.view (by first | omega | (simp only [List.length_append, List.length_cons, List.length_nil, List.nil_append]; omega)) (by first | (unfold maxLen; done) | (unfold maxLen; first | omega | (simp; done) | (simp; omega))) ?_
 clear fr a
 intro A36 cap37 w38 O39 hO40 mv41
 replace hF := (((hF.trNew hN24).loc hO28 (.inl ((hP.foot b).2 (.inl rfl)))).trNew hN30).trNew hN33
 have gN_A36 := fun g (hg : inA A36 g) => (mv41 g hg).elim (fun h => absurd h (apart_none g)) (fun h => Nat.le_trans hF.size h)
 replace hO40 := only_none hO40
 refine Za ?_
 refine Za ?_
 refine Znn ?_
 refine Zrt ?_
 refine Zre rfl [_, _] ⟨rfl, rfl, trivial⟩ ?_
 have gi_b22 : Fp b22 ∨ w.heap.size ≤ b22 := .inr g_b22
 replace H18 := ((((H18.new hN24).only hO28 (ne1P ap_Fp17_b)).new hN30).new hN33).new hO40
 replace B25 := (((B25.only hO28 ne_b_b22.symm).new hN30).new hN33).new hO40
 replace hB := ((hB.new hN30).new hN33).new hO40
 replace hF := hF.trNew hO40
 exact ⟨_, rfl, A36, cap37, rfl, O39, gN_A36, (fun k => k = b ∨ Fp17 k ∨ (fun k => k = b22) k ∨ (fun _ => False) k), ⟨lb, Fp17, _, _, (fun k => k = b22), (fun _ => False), hB, H18, ⟨b22, rfl, B25, fun _ => Iff.rfl, hln⟩, ⟨rfl, fun _ h => h⟩, ⟨ap_Fp17_b, (fun e => (show ¬ b = b22 from ne_b_b22) e), (fun h => h), (fun k hk e => ap_Fp17_b22 (e ▸ hk)), (fun _ _ h => h), (fun _ _ h => h), fun _ => Iff.rfl⟩⟩, hF, (fun g hg => hg.elim (fun e => by rw [e]; exact .inl ((hP.foot b).2 (.inl rfl))) fun h => h.elim (gA_Fp17 g) fun h => h.elim (fun e => by rw [e]; exact gi_b22) (fun h => h.elim))⟩
set_option maxRecDepth 100000 in
set_option maxHeartbeats 4000000 in
theorem ask_pw1n {w : World} {Fp : Nat → Prop} {b : Nat} {id : Int} {n : Nat} {ways : Int} {L : List Ln} (H : CacheAt w Fp b ⟨id, n, ways, L, none, none⟩) (line : Int) (hln : 0 ≤ line ∧ line < 4294967296) (pick : Int) (hs : stateOf L line ≠ 0) (hw : writesB (stateOf L line) = false) (vx : Ln) (hv : vicL n ways L line pick = some vx) (hx : ¬ vx.state = 1) : Calls Try.prog 13 #[.pointer (some ⟨b, 0, none⟩), .int .u32 line, .bool true, .int .i64 pick] w (Ret fun v w' => ∃ A' cap', v = .tuple #[.slice A' ([putM id vx] ++ [askM id line true hln]).length cap', .int .i64 0] ∧ Own msgE w' A' cap' ([putM id vx] ++ [askM id line true hln]) ∧ (∀ g, inA A' g → w.heap.size ≤ g) ∧ ∃ Fp', CacheAt w' Fp' b ⟨id, n, ways, dropL L vx.num, (some (line, true)), (some vx)⟩ ∧ Only Fp w w' ∧ ∀ g, Fp' g → Fp g ∨ w.heap.size ≤ g) := by
 obtain ⟨lb, FpL, pa, pg, FpA, FpG, hB, hL, hA, hG, hP⟩ := H
 dsimp only at hB hL hA hG
 have ap_FpL_b := hP.lb
 obtain ⟨hn1, hn2, hw1, hw2⟩ := hL.bd
 have gA_FpL : ∀ g, FpL g → Fp g ∨ w.heap.size ≤ g := fun g hg => .inl ((hP.foot g).2 (.inr (.inl hg)))
 have hF := Only.refl (Fp) w
 refine Zen 91 Try.func13 ?_
 refine Zsr ?_
 refine Za ?_
 refine Za ?_
 refine Znn ?_
 refine Zsq ?_
 refine Zsr ?_
 refine Zm ?_
 refine Zk cf43 (cnone_c hB) ?_
 rintro v w9 ⟨rfl, hw9⟩
 obtain rfl := hw9.symm
 refine Znn ?_
 refine Zcf ?_
 refine Zsk ?_
 refine Znx ?_
 refine Zsr ?_
 refine Zm ?_
 refine Zm ?_
 refine Zk (args := #[.pointer (some ⟨b, 0, none⟩), .int .u32 line]) cf34 (state_c line (by omega) hB hL ap_FpL_b) ?_
 rintro v w3 ⟨rfl, hN4⟩
 refine Za ?_
 refine Znn ?_
 refine Zsq ?_
 refine Zbl ?_
 refine Zsq ?_
 replace hA := hA.new hN4
 obtain ⟨rfl, hA0⟩ := hA
 replace hG := hG.new hN4
 obtain ⟨rfl, hG0⟩ := hG
 refine Zrg ?_
 refine Zm ?_
 refine Zn ?_
 refine Zf fo83_2 ?_
 replace hB := hB.new hN4
 refine Zd pl80 (hB.cell 2 rfl) ?_
 refine Zv (.bool false) (fun _ fr => x_pneq Try.underlying80 rfl (fr.ev rfl) rfl rfl) ?_
 refine Zm ?_
 refine Zm ?_
 refine Zn ?_
 refine Zf fo83_3 ?_
 refine Zd pl81 (hB.cell 3 rfl) ?_
 refine Zv (.bool false) (fun _ fr => x_pneq Try.underlying81 rfl (fr.ev rfl) rfl rfl) ?_
 refine Zm ?_
 refine Zs ?_
 refine Zs ?_
 refine Zs ?_
 refine Zs ?_
 refine Zs ?_
 refine Zs ?_
 refine Zs ?_
 refine Zs ?_
 refine Zs ?_
 refine Zpf ?_
 refine Zpf ?_
 refine Za ?_
 refine Znn ?_
 refine Zcf ?_
 refine Zsr ?_
 refine Zm ?_
 refine Zv (.bool true) (fun _ fr => x_neq rfl (fr.ev rfl) rfl (decide_eq_true hs)) ?_
 refine Zm ?_
 refine Zm ?_
 refine Zv (.bool false) (fun _ fr => x_not rfl (fr.ev rfl) rfl) ?_
 refine Zm ?_
 refine Zm ?_
 refine Zk cf44 (writes_c (stateOf L line) _) ?_
 rintro v _ ⟨rfl, hw9⟩
 obtain rfl := hw9.symm
 intro a fr
 rw [hw] at fr
 revert a
 refine Zpf ?_
 refine Zpt ?_
 refine Za ?_
 refine Znn ?_
 refine Zcf ?_
 refine Zsk ?_
 refine Zb ?_
 refine Znx ?_
 refine Zsq ?_
 refine Zsr ?_
 refine Zm ?_
 refine Zn ?_
 refine Zf fo83_1 ?_
 refine Zd pl79 (hB.cell 1 rfl) ?_
 refine Zm ?_
 refine Zm ?_
 replace hL := hL.new hN4
 refine Zk (args := #[.pointer (some ⟨lb, 0, none⟩), .int .u32 line, .int .i64 pick]) cf45 (victim_c line (by omega) pick hL) ?_
 rintro v w7 ⟨rfl, hN8⟩
 intro a fr
 rw [hv] at fr
 simp only [Option.getD_some, Option.isSome_some] at fr
 revert a
 refine Zm ?_
 refine Zt ?_
 refine Zt ?_
 refine Zna (z := zv1) (cs := lnE.arr ln0) (by kernel_rfl) fun b9 w10 hN11 B12 hb13 => ?_
 replace hB := hB.new hN8
 have ne_b_b9 : NE b b9 := NE.mk (Nat.lt_of_lt_of_le hB.lt hb13)
 replace hL := hL.new hN8
 have ap_FpL_b9 : ¬ FpL b9 := hL.apart hb13
 replace hF := (hF.trNew hN4).trNew hN8
 have g_b9 := Nat.le_trans hF.size hb13
 refine ZsS sz39 (lnE.all _) B12 (lnE.size _) (lnE.size _) fun w14 hO15 hBq => ?_
 replace B12 := hBq
 clear hBq
 refine Za ?_
 refine Znn ?_
 refine Zsr ?_
 refine Zm ?_
 refine Znn ?_
 refine Zct ?_
 refine Zsr ?_
 refine Zm ?_
 refine ZE lnE ag39 (B12.rangeE lnE) ?_
 replace hB := (hB.new hN11).only hO15 ne_b_b9
 replace hL := (hL.new hN11).only hO15 (ne1P ap_FpL_b9)
 refine Zk cf46 (out_n hB hL ap_FpL_b vx hx) ?_
 rintro v w27 ⟨A20, cap21, rfl, O22, hA23, b24, B25, hB16, hb26, Fp17, H18, mv19, ap_Fp17_b24, ap_A20_b24, ap2_Fp17_A20, hN28⟩
 have ap_Fp17_b : ¬ Fp17 b := moved_apartP mv19 ap_FpL_b hB.lt
 replace hF := (hF.trNew hN11).loc hO15 (.inr g_b9)
 have gA_Fp17 := gA_movedP hF mv19 gA_FpL
 have ne_b_b24 : NE b b24 := NE.mk (Nat.lt_of_lt_of_le hB.lt hb26)
 have g_b24 := Nat.le_trans hF.size hb26
 have ap_A20_b : Apart A20 b := new_apart hA23 hB.lt
 have gA_A20 := gA_new hF hA23
 have gN_A20 := fun g (hg : inA A20 g) => Nat.le_trans hF.size (hA23 g hg)
 clear hL
 replace hB := hB16
 clear hB16
 have gi_b24 : Fp b24 ∨ w.heap.size ≤ b24 := .inr g_b24
 refine Zm ?_
 refine Zt ?_
 refine Zt ?_
 refine Za ?_
 refine Za ?_
 refine Znn ?_
 refine Zsq ?_
 refine Zsr ?_
 refine Zm ?_
 refine Zv (.bool false) (fun _ fr => x_not rfl (fr.ev rfl) rfl) ?_
 refine Znn ?_
 refine Zcf ?_
 refine Zsk ?_
 refine Znx ?_
 refine Zrg ?_
 refine Zm ?_
 refine Za ?_
 refine Znn ?_
 refine Zsr ?_
 refine Zm ?_
 refine Zm ?_
 refine Zm ?_
 refine Zv (.agg (#[.int .u32 line, .bool true])) (fun a fr => x_build (cells := #[.int .u32 line, .bool true]) rfl (by simp only [List.map_toArray, List.map_cons, List.map_nil, show a.eval (.tmp 77) = .int .u32 line from fr.ev rfl, show a.eval (.tmp 78) = .bool true from fr.ev rfl]; kernel_rfl)) ?_
 refine Znb (cs := #[.int .u32 line, .bool true]) fun b29 w30 hN31 B32 hb33 => ?_
 have ne_b_b29 : NE b b29 := NE.mk (Nat.lt_of_lt_of_le hB.lt hb33)
 have ap_A20_b29 : Apart A20 b29 := O22.apart hb33
 have ne_b24_b29 : NE b24 b29 := NE.mk (Nat.lt_of_lt_of_le B25.lt hb33)
 have ap_Fp17_b29 : ¬ Fp17 b29 := H18.apart hb33
 replace hF := hF.locS hN28 (fun i => (fun h => h.elim (fun e => by rw [e]; exact (.inl ((hP.foot b).2 (.inl rfl)))) (fun h => gA_FpL i h)))
 have g_b29 := Nat.le_trans hF.size hb33
 refine Zn ?_
 refine Zf fo83_2 ?_
 replace hB := hB.new hN31
 refine Zs1 (cs' := #[.int .i64 id, .pointer (some ⟨lb, 0, none⟩), .pointer (some ⟨b29, 0, none⟩), .pointer (some ⟨b24, 0, none⟩)]) sz80 hB (show 2 < 4 by decide) rfl fun w34 hO35 hBq => ?_
 replace hB := hBq
 clear hBq
 refine Znn ?_
 refine Zsr ?_
 refine Za ?_
 refine Znn ?_
 refine Zsq ?_
 refine Zsr ?_
 refine Zm ?_
 refine Znn ?_
 refine Zct ?_
 refine Zrg ?_
 refine Za ?_
 refine Znn ?_
 refine Zsr ?_
 refine Zm ?_
 refine Zm ?_
 refine Zm ?_
 refine Zm ?_
 refine Zk (args := #[.pointer (some ⟨b, 0, none⟩), .int .i64 2, .int .u32 line]) cf47 (msg_c hB 2 line (by omega)) ?_
 rintro v w36 ⟨rfl, hN37⟩
 intro a fr
 refine fx_build1 (E := msgE) (p := (mkM 2 id 4 line)) elMsg (by decide) fr rfl rfl (by decide) rfl (fr.ev rfl) ?_
 clear fr a
 intro A38 w39 hN40 O41 hA42
 intro a fr
 replace O22 := (((O22.new hN31).only hO35 (Apart.ne1 ap_A20_b)).new hN37).new hN40
 refine fx_append (E := msgE) (l := [putM id vx]) (l' := [(mkM 2 id 4 line)]) elMsg fr rfl rfl (by decide) rfl (fr.ev rfl) (fr.ev rfl) (by first | rfl | (simp; done) | (simp; omega)) (by first | rfl | (simp; done) | (simp; omega)) O22 O41.view (by first | omega | (simp only [List.length_append, List.length_cons, List.length_nil, List.nil_append]; omega)) (by first | (unfold maxLen; done) | (unfold maxLen; first | omega | (simp; done) | (simp; omega))) ?_
 clear fr a
 intro A43 cap44 w45 O46 hO47 mv48
 replace hF := (((hF.trNew hN31).loc hO35 (.inl ((hP.foot b).2 (.inl rfl)))).trNew hN37).trNew hN40
 have gN_A43 := fun g (hg : inA A43 g) => (mv48 g hg).elim (gN_A20 g) (fun h => Nat.le_trans hF.size h)
 clear O22
 refine Za ?_
 refine Za ?_
 refine Znn ?_
 refine Zrt ?_
 refine Zre rfl [_, _] ⟨rfl, rfl, trivial⟩ ?_
 have gi_b29 : Fp b29 ∨ w.heap.size ≤ b29 := .inr g_b29
 replace B25 := ((((B25.new hN31).only hO35 ne_b_b24.symm).new hN37).new hN40).only hO47 ap_A20_b24
 replace H18 := ((((H18.new hN31).only hO35 (ne1P ap_Fp17_b)).new hN37).new hN40).only hO47 (fun g h1 h2 => ap2_Fp17_A20 g h1 h2)
 replace B32 := (((B32.only hO35 ne_b_b29.symm).new hN37).new hN40).only hO47 ap_A20_b29
 replace hB := ((hB.new hN37).new hN40).only hO47 ap_A20_b
 replace hF := hF.locA hO47 gA_A20
 exact ⟨_, rfl, A43, cap44, rfl, O46, gN_A43, (fun k => k = b ∨ Fp17 k ∨ (fun k => k = b29) k ∨ (fun k => k = b24) k), ⟨lb, Fp17, _, _, (fun k => k = b29), (fun k => k = b24), hB, H18, ⟨b29, rfl, B32, fun _ => Iff.rfl, hln⟩, ⟨b24, rfl, B25, fun _ => Iff.rfl⟩, ⟨ap_Fp17_b, (fun e => (show ¬ b = b29 from ne_b_b29) e), (fun e => (show ¬ b = b24 from ne_b_b24) e), (fun k hk e => ap_Fp17_b29 (e ▸ hk)), (fun k hk e => ap_Fp17_b24 (e ▸ hk)), (fun k e e2 => (show ¬ b29 = b24 from ne_b24_b29.symm) (e.symm.trans e2)), fun _ => Iff.rfl⟩⟩, hF, (fun g hg => hg.elim (fun e => by rw [e]; exact .inl ((hP.foot b).2 (.inl rfl))) fun h => h.elim (gA_Fp17 g) fun h => h.elim (fun e => by rw [e]; exact gi_b29) (fun e => by rw [e]; exact gi_b24))⟩
set_option maxRecDepth 100000 in
set_option maxHeartbeats 4000000 in
theorem ask_tws {w : World} {Fp : Nat → Prop} {b : Nat} {id : Int} {n : Nat} {ways : Int} {L : List Ln} {gx : Ln} (H : CacheAt w Fp b ⟨id, n, ways, L, none, (some gx)⟩) (line : Int) (hln : 0 ≤ line ∧ line < 4294967296) (pick : Int) (hg : ¬ gx.num = line) (hs : stateOf L line ≠ 0) (hw : writesB (stateOf L line) = true)  : Calls Try.prog 13 #[.pointer (some ⟨b, 0, none⟩), .int .u32 line, .bool true, .int .i64 pick] w (Ret fun v w' => v = .tuple #[.slice none 0 0, .int .i64 231] ∧ New w w') := by
 obtain ⟨lb, FpL, pa, pg, FpA, FpG, hB, hL, hA, hG, hP⟩ := H
 dsimp only at hB hL hA hG
 have ap_FpL_b := hP.lb
 obtain ⟨hn1, hn2, hw1, hw2⟩ := hL.bd
 have gA_FpG := fun g (hg : FpG g) => (Or.inl trivial : True ∨ w.heap.size ≤ g)
 have hF := Only.refl (fun _ => False) w
 refine Zen 91 Try.func13 ?_
 refine Zsr ?_
 refine Za ?_
 refine Za ?_
 refine Znn ?_
 refine Zsq ?_
 refine Zsr ?_
 refine Zm ?_
 refine Zk cf43 (cnone_c hB) ?_
 rintro v w9 ⟨rfl, hw9⟩
 obtain rfl := hw9.symm
 refine Znn ?_
 refine Zcf ?_
 refine Zsk ?_
 refine Znx ?_
 refine Zsr ?_
 refine Zm ?_
 refine Zm ?_
 refine Zk (args := #[.pointer (some ⟨b, 0, none⟩), .int .u32 line]) cf34 (state_c line (by omega) hB hL ap_FpL_b) ?_
 rintro v w3 ⟨rfl, hN4⟩
 refine Za ?_
 refine Znn ?_
 refine Zsq ?_
 refine Zbl ?_
 refine Zsq ?_
 replace hA := hA.new hN4
 obtain ⟨rfl, hA0⟩ := hA
 replace hG := hG.new hN4
 obtain ⟨bg, rfl, hGB, hGF⟩ := hG
 have gi_bg := gA_FpG bg ((hGF bg).2 rfl)
 refine Zrg ?_
 refine Zm ?_
 refine Zn ?_
 refine Zf fo83_2 ?_
 replace hB := hB.new hN4
 refine Zd pl80 (hB.cell 2 rfl) ?_
 refine Zv (.bool false) (fun _ fr => x_pneq Try.underlying80 rfl (fr.ev rfl) rfl rfl) ?_
 refine Zm ?_
 refine Zm ?_
 refine Zn ?_
 refine Zf fo83_3 ?_
 refine Zd pl81 (hB.cell 3 rfl) ?_
 refine Zv (.bool true) (fun _ fr => x_pneq Try.underlying81 rfl (fr.ev rfl) rfl rfl) ?_
 refine Zm ?_
 refine Zm ?_
 refine Zn ?_
 refine Zf fo83_3 ?_
 refine Zd pl81 (hB.cell 3 rfl) ?_
 refine Zn ?_
 refine Zf fo39_0 ?_
 refine Zd (v := .int .u32 gx.num) pl32 (hGB.cell 0 rfl) ?_
 refine Zm ?_
 refine Zv (.bool false) (fun _ fr => x_eql rfl (fr.ev rfl) (fr.ev rfl) (decide_eq_false hg)) ?_
 refine Zpt ?_
 refine Zpf ?_
 refine Za ?_
 refine Znn ?_
 refine Zcf ?_
 refine Zsr ?_
 refine Zm ?_
 refine Zv (.bool true) (fun _ fr => x_neq rfl (fr.ev rfl) rfl (decide_eq_true hs)) ?_
 refine Zm ?_
 refine Zm ?_
 refine Zv (.bool false) (fun _ fr => x_not rfl (fr.ev rfl) rfl) ?_
 refine Zm ?_
 refine Zm ?_
 refine Zk cf44 (writes_c (stateOf L line) _) ?_
 rintro v _ ⟨rfl, hw9⟩
 obtain rfl := hw9.symm
 intro a fr
 rw [hw] at fr
 revert a
 refine Zpf ?_
 refine Zpt ?_
 refine Za ?_
 refine Znn ?_
 refine Zct ?_
 refine Zsr ?_
 refine Za ?_
 refine Za ?_
 refine Znn ?_
 refine Zrt ?_
 refine Zr2 ?_
 refine Zr1 ?_
 refine Zre rfl [_, _] ⟨rfl, rfl, trivial⟩ ?_
 replace hF := hF.trNew hN4
 exact ⟨_, rfl, rfl, hF⟩
set_option maxRecDepth 100000 in
set_option maxHeartbeats 4000000 in
theorem ask_nw0s {w : World} {Fp : Nat → Prop} {b : Nat} {id : Int} {n : Nat} {ways : Int} {L : List Ln} {gx : Ln} (H : CacheAt w Fp b ⟨id, n, ways, L, none, (some gx)⟩) (line : Int) (hln : 0 ≤ line ∧ line < 4294967296) (pick : Int) (hg : ¬ gx.num = line) (hs : ¬ stateOf L line ≠ 0) (hv : vicL n ways L line pick = none) : Calls Try.prog 13 #[.pointer (some ⟨b, 0, none⟩), .int .u32 line, .bool true, .int .i64 pick] w (Ret fun v w' => ∃ A' cap', v = .tuple #[.slice A' ([askM id line true hln]).length cap', .int .i64 0] ∧ Own msgE w' A' cap' ([askM id line true hln]) ∧ (∀ g, inA A' g → w.heap.size ≤ g) ∧ ∃ Fp', CacheAt w' Fp' b ⟨id, n, ways, L, (some (line, true)), (some gx)⟩ ∧ Only Fp w w' ∧ ∀ g, Fp' g → Fp g ∨ w.heap.size ≤ g) := by
 obtain ⟨lb, FpL, pa, pg, FpA, FpG, hB, hL, hA, hG, hP⟩ := H
 dsimp only at hB hL hA hG
 have ap_FpL_b := hP.lb
 have ap_FpG_b := hP.gb
 have ap2_FpL_FpG := hP.lg
 obtain ⟨hn1, hn2, hw1, hw2⟩ := hL.bd
 have gA_FpL : ∀ g, FpL g → Fp g ∨ w.heap.size ≤ g := fun g hg => .inl ((hP.foot g).2 (.inr (.inl hg)))
 have gA_FpG : ∀ g, FpG g → Fp g ∨ w.heap.size ≤ g := fun g hg => .inl ((hP.foot g).2 (.inr (.inr (.inr hg))))
 have hF := Only.refl (Fp) w
 refine Zen 91 Try.func13 ?_
 refine Zsr ?_
 refine Za ?_
 refine Za ?_
 refine Znn ?_
 refine Zsq ?_
 refine Zsr ?_
 refine Zm ?_
 refine Zk cf43 (cnone_c hB) ?_
 rintro v w9 ⟨rfl, hw9⟩
 obtain rfl := hw9.symm
 refine Znn ?_
 refine Zcf ?_
 refine Zsk ?_
 refine Znx ?_
 refine Zsr ?_
 refine Zm ?_
 refine Zm ?_
 refine Zk (args := #[.pointer (some ⟨b, 0, none⟩), .int .u32 line]) cf34 (state_c line (by omega) hB hL ap_FpL_b) ?_
 rintro v w3 ⟨rfl, hN4⟩
 refine Za ?_
 refine Znn ?_
 refine Zsq ?_
 refine Zbl ?_
 refine Zsq ?_
 replace hA := hA.new hN4
 obtain ⟨rfl, hA0⟩ := hA
 replace hG := hG.new hN4
 obtain ⟨bg, rfl, hGB, hGF⟩ := hG
 have ne_bg_b : NE bg b := fun e => ap_FpG_b (e ▸ (hGF bg).2 rfl)
 have ap_FpL_bg : ¬ FpL bg := fun h => ap2_FpL_FpG bg h ((hGF bg).2 rfl)
 have gi_bg := gA_FpG bg ((hGF bg).2 rfl)
 refine Zrg ?_
 refine Zm ?_
 refine Zn ?_
 refine Zf fo83_2 ?_
 replace hB := hB.new hN4
 refine Zd pl80 (hB.cell 2 rfl) ?_
 refine Zv (.bool false) (fun _ fr => x_pneq Try.underlying80 rfl (fr.ev rfl) rfl rfl) ?_
 refine Zm ?_
 refine Zm ?_
 refine Zn ?_
 refine Zf fo83_3 ?_
 refine Zd pl81 (hB.cell 3 rfl) ?_
 refine Zv (.bool true) (fun _ fr => x_pneq Try.underlying81 rfl (fr.ev rfl) rfl rfl) ?_
 refine Zm ?_
 refine Zm ?_
 refine Zn ?_
 refine Zf fo83_3 ?_
 refine Zd pl81 (hB.cell 3 rfl) ?_
 refine Zn ?_
 refine Zf fo39_0 ?_
 refine Zd (v := .int .u32 gx.num) pl32 (hGB.cell 0 rfl) ?_
 refine Zm ?_
 refine Zv (.bool false) (fun _ fr => x_eql rfl (fr.ev rfl) (fr.ev rfl) (decide_eq_false hg)) ?_
 refine Zpt ?_
 refine Zpf ?_
 refine Za ?_
 refine Znn ?_
 refine Zcf ?_
 refine Zsr ?_
 refine Zm ?_
 refine Zv (.bool false) (fun _ fr => x_neq rfl (fr.ev rfl) rfl (decide_eq_false hs)) ?_
 refine Zm ?_
 refine Zs ?_
 refine Zs ?_
 refine Zs ?_
 refine Zs ?_
 refine Zs ?_
 refine Zs ?_
 refine Zpf ?_
 refine Za ?_
 refine Znn ?_
 refine Zcf ?_
 refine Zsk ?_
 refine Zb ?_
 refine Znx ?_
 refine Zsq ?_
 refine Zsr ?_
 refine Zm ?_
 refine Zn ?_
 refine Zf fo83_1 ?_
 refine Zd pl79 (hB.cell 1 rfl) ?_
 refine Zm ?_
 refine Zm ?_
 replace hL := hL.new hN4
 refine Zk (args := #[.pointer (some ⟨lb, 0, none⟩), .int .u32 line, .int .i64 pick]) cf45 (victim_c line (by omega) pick hL) ?_
 rintro v w5 ⟨rfl, hN6⟩
 intro a fr
 rw [hv] at fr
 simp only [Option.getD_none, Option.isSome_none] at fr
 revert a
 refine Zm ?_
 refine Zt ?_
 refine Zt ?_
 refine Zna (z := zv1) (cs := lnE.arr ln0) (by kernel_rfl) fun b7 w8 hN9 B10 hb11 => ?_
 replace hB := hB.new hN6
 have ne_b_b7 : NE b b7 := NE.mk (Nat.lt_of_lt_of_le hB.lt hb11)
 replace hL := hL.new hN6
 have ap_FpL_b7 : ¬ FpL b7 := hL.apart hb11
 replace hGB := hGB.new hN6
 have ne_bg_b7 : NE bg b7 := NE.mk (Nat.lt_of_lt_of_le hGB.lt hb11)
 replace hF := (hF.trNew hN4).trNew hN6
 have g_b7 := Nat.le_trans hF.size hb11
 refine ZsS sz39 (lnE.all _) B10 (lnE.size _) (lnE.size _) fun w12 hO13 hBq => ?_
 clear hBq
 refine Za ?_
 refine Znn ?_
 refine Zsr ?_
 refine Zm ?_
 refine Znn ?_
 refine Zcf ?_
 refine Zsk ?_
 refine Znx ?_
 refine Zsr ?_
 refine Zm ?_
 refine Zm ?_
 refine Zm ?_
 refine Zv (.agg (#[.int .u32 line, .bool true])) (fun a fr => x_build (cells := #[.int .u32 line, .bool true]) rfl (by simp only [List.map_toArray, List.map_cons, List.map_nil, show a.eval (.tmp 77) = .int .u32 line from fr.ev rfl, show a.eval (.tmp 78) = .bool true from fr.ev rfl]; kernel_rfl)) ?_
 refine Znb (cs := #[.int .u32 line, .bool true]) fun b14 w15 hN16 B17 hb18 => ?_
 replace hB := (hB.new hN9).only hO13 ne_b_b7
 have ne_b_b14 : NE b b14 := NE.mk (Nat.lt_of_lt_of_le hB.lt hb18)
 replace hL := (hL.new hN9).only hO13 (ne1P ap_FpL_b7)
 have ap_FpL_b14 : ¬ FpL b14 := hL.apart hb18
 replace hGB := (hGB.new hN9).only hO13 ne_bg_b7
 have ne_bg_b14 : NE bg b14 := NE.mk (Nat.lt_of_lt_of_le hGB.lt hb18)
 replace hF := (hF.trNew hN9).loc hO13 (.inr g_b7)
 have g_b14 := Nat.le_trans hF.size hb18
 refine Zn ?_
 refine Zf fo83_2 ?_
 replace hB := hB.new hN16
 refine Zs1 (cs' := #[.int .i64 id, .pointer (some ⟨lb, 0, none⟩), .pointer (some ⟨b14, 0, none⟩), .pointer (some ⟨bg, 0, none⟩)]) sz80 hB (show 2 < 4 by decide) rfl fun w19 hO20 hBq => ?_
 replace hB := hBq
 clear hBq
 refine Znn ?_
 refine Zsr ?_
 refine Za ?_
 refine Znn ?_
 refine Zsq ?_
 refine Zsr ?_
 refine Zm ?_
 refine Znn ?_
 refine Zct ?_
 refine Zrg ?_
 refine Za ?_
 refine Znn ?_
 refine Zsr ?_
 refine Zm ?_
 refine Zm ?_
 refine Zm ?_
 refine Zm ?_
 refine Zk (args := #[.pointer (some ⟨b, 0, none⟩), .int .i64 2, .int .u32 line]) cf47 (msg_c hB 2 line (by omega)) ?_
 rintro v w21 ⟨rfl, hN22⟩
 intro a fr
 refine fx_build1 (E := msgE) (p := (mkM 2 id 4 line)) elMsg (by decide) fr rfl rfl (by decide) rfl (fr.ev rfl) ?_
 clear fr a
 intro A23 w24 hN25 O26 hA27
 intro a fr
 refine fx_append (E := msgE) (l := []) (l' := [(mkM 2 id 4 line)]) elMsg fr rfl rfl (by decide) rfl (fr.ev rfl) (fr.ev rfl) (by first | rfl | (simp; done) | (simp; omega)) (by first | rfl | (simp; done) | (simp; omega)) Own.nil O26.view (by first | omega | (simp only [List.length_append, List.length_cons, List.length_nil, List.nil_append]; omega)) (by first | (unfold maxLen; done) | (unfold maxLen; first | omega | (simp; done) | (simp; omega))) ?_
 clear fr a
 intro A28 cap29 w30 O31 hO32 mv33
 replace hF := (((hF.trNew hN16).loc hO20 (.inl ((hP.foot b).2 (.inl rfl)))).trNew hN22).trNew hN25
 have gN_A28 := fun g (hg : inA A28 g) => (mv33 g hg).elim (fun h => absurd h (apart_none g)) (fun h => Nat.le_trans hF.size h)
 replace hO32 := only_none hO32
 refine Za ?_
 refine Za ?_
 refine Znn ?_
 refine Zrt ?_
 refine Zre rfl [_, _] ⟨rfl, rfl, trivial⟩ ?_
 have gi_b14 : Fp b14 ∨ w.heap.size ≤ b14 := .inr g_b14
 replace hL := ((((hL.new hN16).only hO20 (ne1P ap_FpL_b)).new hN22).new hN25).new hO32
 replace hGB := ((((hGB.new hN16).only hO20 ne_bg_b).new hN22).new hN25).new hO32
 replace B17 := (((B17.only hO20 ne_b_b14.symm).new hN22).new hN25).new hO32
 replace hB := ((hB.new hN22).new hN25).new hO32
 replace hF := hF.trNew hO32
 exact ⟨_, rfl, A28, cap29, rfl, O31, gN_A28, (fun k => k = b ∨ FpL k ∨ (fun k => k = b14) k ∨ (fun k => k = bg) k), ⟨lb, FpL, _, _, (fun k => k = b14), (fun k => k = bg), hB, hL, ⟨b14, rfl, B17, fun _ => Iff.rfl, hln⟩, ⟨bg, rfl, hGB, fun _ => Iff.rfl⟩, ⟨ap_FpL_b, (fun e => (show ¬ b = b14 from ne_b_b14) e), (fun e => (show ¬ b = bg from ne_bg_b.symm) e), (fun k hk e => ap_FpL_b14 (e ▸ hk)), (fun k hk e => ap_FpL_bg (e ▸ hk)), (fun k e e2 => (show ¬ b14 = bg from ne_bg_b14.symm) (e.symm.trans e2)), fun _ => Iff.rfl⟩⟩, hF, (fun g hg => hg.elim (fun e => by rw [e]; exact .inl ((hP.foot b).2 (.inl rfl))) fun h => h.elim (gA_FpL g) fun h => h.elim (fun e => by rw [e]; exact gi_b14) (fun e => by rw [e]; exact gi_bg))⟩
set_option maxRecDepth 100000 in
set_option maxHeartbeats 4000000 in
theorem ask_sw0s {w : World} {Fp : Nat → Prop} {b : Nat} {id : Int} {n : Nat} {ways : Int} {L : List Ln} {gx : Ln} (H : CacheAt w Fp b ⟨id, n, ways, L, none, (some gx)⟩) (line : Int) (hln : 0 ≤ line ∧ line < 4294967296) (pick : Int) (hg : ¬ gx.num = line) (hs : ¬ stateOf L line ≠ 0) (vx : Ln) (hv : vicL n ways L line pick = some vx) (hx : vx.state = 1) : Calls Try.prog 13 #[.pointer (some ⟨b, 0, none⟩), .int .u32 line, .bool true, .int .i64 pick] w (Ret fun v w' => ∃ A' cap', v = .tuple #[.slice A' ([askM id line true hln]).length cap', .int .i64 0] ∧ Own msgE w' A' cap' ([askM id line true hln]) ∧ (∀ g, inA A' g → w.heap.size ≤ g) ∧ ∃ Fp', CacheAt w' Fp' b ⟨id, n, ways, dropL L vx.num, (some (line, true)), (some gx)⟩ ∧ Only Fp w w' ∧ ∀ g, Fp' g → Fp g ∨ w.heap.size ≤ g) := by
 obtain ⟨lb, FpL, pa, pg, FpA, FpG, hB, hL, hA, hG, hP⟩ := H
 dsimp only at hB hL hA hG
 have ap_FpL_b := hP.lb
 have ap_FpG_b := hP.gb
 have ap2_FpL_FpG := hP.lg
 obtain ⟨hn1, hn2, hw1, hw2⟩ := hL.bd
 have gA_FpL : ∀ g, FpL g → Fp g ∨ w.heap.size ≤ g := fun g hg => .inl ((hP.foot g).2 (.inr (.inl hg)))
 have gA_FpG : ∀ g, FpG g → Fp g ∨ w.heap.size ≤ g := fun g hg => .inl ((hP.foot g).2 (.inr (.inr (.inr hg))))
 have hF := Only.refl (Fp) w
 refine Zen 91 Try.func13 ?_
 refine Zsr ?_
 refine Za ?_
 refine Za ?_
 refine Znn ?_
 refine Zsq ?_
 refine Zsr ?_
 refine Zm ?_
 refine Zk cf43 (cnone_c hB) ?_
 rintro v w9 ⟨rfl, hw9⟩
 obtain rfl := hw9.symm
 refine Znn ?_
 refine Zcf ?_
 refine Zsk ?_
 refine Znx ?_
 refine Zsr ?_
 refine Zm ?_
 refine Zm ?_
 refine Zk (args := #[.pointer (some ⟨b, 0, none⟩), .int .u32 line]) cf34 (state_c line (by omega) hB hL ap_FpL_b) ?_
 rintro v w3 ⟨rfl, hN4⟩
 refine Za ?_
 refine Znn ?_
 refine Zsq ?_
 refine Zbl ?_
 refine Zsq ?_
 replace hA := hA.new hN4
 obtain ⟨rfl, hA0⟩ := hA
 replace hG := hG.new hN4
 obtain ⟨bg, rfl, hGB, hGF⟩ := hG
 have ne_bg_b : NE bg b := fun e => ap_FpG_b (e ▸ (hGF bg).2 rfl)
 have ap_FpL_bg : ¬ FpL bg := fun h => ap2_FpL_FpG bg h ((hGF bg).2 rfl)
 have gi_bg := gA_FpG bg ((hGF bg).2 rfl)
 refine Zrg ?_
 refine Zm ?_
 refine Zn ?_
 refine Zf fo83_2 ?_
 replace hB := hB.new hN4
 refine Zd pl80 (hB.cell 2 rfl) ?_
 refine Zv (.bool false) (fun _ fr => x_pneq Try.underlying80 rfl (fr.ev rfl) rfl rfl) ?_
 refine Zm ?_
 refine Zm ?_
 refine Zn ?_
 refine Zf fo83_3 ?_
 refine Zd pl81 (hB.cell 3 rfl) ?_
 refine Zv (.bool true) (fun _ fr => x_pneq Try.underlying81 rfl (fr.ev rfl) rfl rfl) ?_
 refine Zm ?_
 refine Zm ?_
 refine Zn ?_
 refine Zf fo83_3 ?_
 refine Zd pl81 (hB.cell 3 rfl) ?_
 refine Zn ?_
 refine Zf fo39_0 ?_
 refine Zd (v := .int .u32 gx.num) pl32 (hGB.cell 0 rfl) ?_
 refine Zm ?_
 refine Zv (.bool false) (fun _ fr => x_eql rfl (fr.ev rfl) (fr.ev rfl) (decide_eq_false hg)) ?_
 refine Zpt ?_
 refine Zpf ?_
 refine Za ?_
 refine Znn ?_
 refine Zcf ?_
 refine Zsr ?_
 refine Zm ?_
 refine Zv (.bool false) (fun _ fr => x_neq rfl (fr.ev rfl) rfl (decide_eq_false hs)) ?_
 refine Zm ?_
 refine Zs ?_
 refine Zs ?_
 refine Zs ?_
 refine Zs ?_
 refine Zs ?_
 refine Zs ?_
 refine Zpf ?_
 refine Za ?_
 refine Znn ?_
 refine Zcf ?_
 refine Zsk ?_
 refine Zb ?_
 refine Znx ?_
 refine Zsq ?_
 refine Zsr ?_
 refine Zm ?_
 refine Zn ?_
 refine Zf fo83_1 ?_
 refine Zd pl79 (hB.cell 1 rfl) ?_
 refine Zm ?_
 refine Zm ?_
 replace hL := hL.new hN4
 refine Zk (args := #[.pointer (some ⟨lb, 0, none⟩), .int .u32 line, .int .i64 pick]) cf45 (victim_c line (by omega) pick hL) ?_
 rintro v w5 ⟨rfl, hN6⟩
 intro a fr
 rw [hv] at fr
 simp only [Option.getD_some, Option.isSome_some] at fr
 revert a
 refine Zm ?_
 refine Zt ?_
 refine Zt ?_
 refine Zna (z := zv1) (cs := lnE.arr ln0) (by kernel_rfl) fun b7 w8 hN9 B10 hb11 => ?_
 replace hB := hB.new hN6
 have ne_b_b7 : NE b b7 := NE.mk (Nat.lt_of_lt_of_le hB.lt hb11)
 replace hL := hL.new hN6
 have ap_FpL_b7 : ¬ FpL b7 := hL.apart hb11
 replace hGB := hGB.new hN6
 have ne_bg_b7 : NE bg b7 := NE.mk (Nat.lt_of_lt_of_le hGB.lt hb11)
 replace hF := (hF.trNew hN4).trNew hN6
 have g_b7 := Nat.le_trans hF.size hb11
 refine ZsS sz39 (lnE.all _) B10 (lnE.size _) (lnE.size _) fun w12 hO13 hBq => ?_
 replace B10 := hBq
 clear hBq
 refine Za ?_
 refine Znn ?_
 refine Zsr ?_
 refine Zm ?_
 refine Znn ?_
 refine Zct ?_
 refine Zsr ?_
 refine Zm ?_
 refine ZE lnE ag39 (B10.rangeE lnE) ?_
 replace hB := (hB.new hN9).only hO13 ne_b_b7
 replace hL := (hL.new hN9).only hO13 (ne1P ap_FpL_b7)
 refine Zk cf46 (out_s hB hL ap_FpL_b vx hx) ?_
 rintro v w18 ⟨rfl, hB14, Fp15, H16, mv17, hN19⟩
 have ap_Fp15_b : ¬ Fp15 b := moved_apartP mv17 ap_FpL_b hB.lt
 replace hGB := (hGB.new hN9).only hO13 ne_bg_b7
 have ap_Fp15_bg : ¬ Fp15 bg := moved_apartP mv17 ap_FpL_bg hGB.lt
 replace hF := (hF.trNew hN9).loc hO13 (.inr g_b7)
 have gA_Fp15 := gA_movedP hF mv17 gA_FpL
 clear hL
 replace hB := hB14
 clear hB14
 refine Zm ?_
 refine Zt ?_
 refine Zt ?_
 refine Za ?_
 refine Za ?_
 refine Znn ?_
 refine Zsq ?_
 refine Zsr ?_
 refine Zm ?_
 refine Zv (.bool false) (fun _ fr => x_not rfl (fr.ev rfl) rfl) ?_
 refine Znn ?_
 refine Zcf ?_
 refine Zsk ?_
 refine Znx ?_
 refine Zrg ?_
 refine Zm ?_
 refine Za ?_
 refine Znn ?_
 refine Zsr ?_
 refine Zm ?_
 refine Zm ?_
 refine Zm ?_
 refine Zv (.agg (#[.int .u32 line, .bool true])) (fun a fr => x_build (cells := #[.int .u32 line, .bool true]) rfl (by simp only [List.map_toArray, List.map_cons, List.map_nil, show a.eval (.tmp 77) = .int .u32 line from fr.ev rfl, show a.eval (.tmp 78) = .bool true from fr.ev rfl]; kernel_rfl)) ?_
 refine Znb (cs := #[.int .u32 line, .bool true]) fun b20 w21 hN22 B23 hb24 => ?_
 replace hGB := hGB.only hN19 (fun h => h.elim ne_bg_b ap_FpL_bg)
 have ne_bg_b20 : NE bg b20 := NE.mk (Nat.lt_of_lt_of_le hGB.lt hb24)
 have ne_b_b20 : NE b b20 := NE.mk (Nat.lt_of_lt_of_le hB.lt hb24)
 have ap_Fp15_b20 : ¬ Fp15 b20 := H16.apart hb24
 replace hF := hF.locS hN19 (fun i => (fun h => h.elim (fun e => by rw [e]; exact (.inl ((hP.foot b).2 (.inl rfl)))) (fun h => gA_FpL i h)))
 have g_b20 := Nat.le_trans hF.size hb24
 refine Zn ?_
 refine Zf fo83_2 ?_
 replace hB := hB.new hN22
 refine Zs1 (cs' := #[.int .i64 id, .pointer (some ⟨lb, 0, none⟩), .pointer (some ⟨b20, 0, none⟩), .pointer (some ⟨bg, 0, none⟩)]) sz80 hB (show 2 < 4 by decide) rfl fun w25 hO26 hBq => ?_
 replace hB := hBq
 clear hBq
 refine Znn ?_
 refine Zsr ?_
 refine Za ?_
 refine Znn ?_
 refine Zsq ?_
 refine Zsr ?_
 refine Zm ?_
 refine Znn ?_
 refine Zct ?_
 refine Zrg ?_
 refine Za ?_
 refine Znn ?_
 refine Zsr ?_
 refine Zm ?_
 refine Zm ?_
 refine Zm ?_
 refine Zm ?_
 refine Zk (args := #[.pointer (some ⟨b, 0, none⟩), .int .i64 2, .int .u32 line]) cf47 (msg_c hB 2 line (by omega)) ?_
 rintro v w27 ⟨rfl, hN28⟩
 intro a fr
 refine fx_build1 (E := msgE) (p := (mkM 2 id 4 line)) elMsg (by decide) fr rfl rfl (by decide) rfl (fr.ev rfl) ?_
 clear fr a
 intro A29 w30 hN31 O32 hA33
 intro a fr
 refine fx_append (E := msgE) (l := []) (l' := [(mkM 2 id 4 line)]) elMsg fr rfl rfl (by decide) rfl (fr.ev rfl) (fr.ev rfl) (by first | rfl | (simp; done) | (simp; omega)) (by first | rfl | (simp; done) | (simp; omega)) Own.nil O32.view (by first | omega | (simp only [List.length_append, List.length_cons, List.length_nil, List.nil_append]; omega)) (by first | (unfold maxLen; done) | (unfold maxLen; first | omega | (simp; done) | (simp; omega))) ?_
 clear fr a
 intro A34 cap35 w36 O37 hO38 mv39
 replace hF := (((hF.trNew hN22).loc hO26 (.inl ((hP.foot b).2 (.inl rfl)))).trNew hN28).trNew hN31
 have gN_A34 := fun g (hg : inA A34 g) => (mv39 g hg).elim (fun h => absurd h (apart_none g)) (fun h => Nat.le_trans hF.size h)
 replace hO38 := only_none hO38
 refine Za ?_
 refine Za ?_
 refine Znn ?_
 refine Zrt ?_
 refine Zre rfl [_, _] ⟨rfl, rfl, trivial⟩ ?_
 have gi_b20 : Fp b20 ∨ w.heap.size ≤ b20 := .inr g_b20
 replace hGB := ((((hGB.new hN22).only hO26 ne_bg_b).new hN28).new hN31).new hO38
 replace H16 := ((((H16.new hN22).only hO26 (ne1P ap_Fp15_b)).new hN28).new hN31).new hO38
 replace B23 := (((B23.only hO26 ne_b_b20.symm).new hN28).new hN31).new hO38
 replace hB := ((hB.new hN28).new hN31).new hO38
 replace hF := hF.trNew hO38
 exact ⟨_, rfl, A34, cap35, rfl, O37, gN_A34, (fun k => k = b ∨ Fp15 k ∨ (fun k => k = b20) k ∨ (fun k => k = bg) k), ⟨lb, Fp15, _, _, (fun k => k = b20), (fun k => k = bg), hB, H16, ⟨b20, rfl, B23, fun _ => Iff.rfl, hln⟩, ⟨bg, rfl, hGB, fun _ => Iff.rfl⟩, ⟨ap_Fp15_b, (fun e => (show ¬ b = b20 from ne_b_b20) e), (fun e => (show ¬ b = bg from ne_bg_b.symm) e), (fun k hk e => ap_Fp15_b20 (e ▸ hk)), (fun k hk e => ap_Fp15_bg (e ▸ hk)), (fun k e e2 => (show ¬ b20 = bg from ne_bg_b20.symm) (e.symm.trans e2)), fun _ => Iff.rfl⟩⟩, hF, (fun g hg => hg.elim (fun e => by rw [e]; exact .inl ((hP.foot b).2 (.inl rfl))) fun h => h.elim (gA_Fp15 g) fun h => h.elim (fun e => by rw [e]; exact gi_b20) (fun e => by rw [e]; exact gi_bg))⟩
set_option maxRecDepth 100000 in
set_option maxHeartbeats 4000000 in
theorem ask_bw0s {w : World} {Fp : Nat → Prop} {b : Nat} {id : Int} {n : Nat} {ways : Int} {L : List Ln} {gx : Ln} (H : CacheAt w Fp b ⟨id, n, ways, L, none, (some gx)⟩) (line : Int) (hln : 0 ≤ line ∧ line < 4294967296) (pick : Int) (hg : ¬ gx.num = line) (hs : ¬ stateOf L line ≠ 0) (vx : Ln) (hv : vicL n ways L line pick = some vx) (hx : ¬ vx.state = 1) : Calls Try.prog 13 #[.pointer (some ⟨b, 0, none⟩), .int .u32 line, .bool true, .int .i64 pick] w (Ret fun v w' => v = .tuple #[.slice none 0 0, .int .i64 230] ∧ New w w') := by
 obtain ⟨lb, FpL, pa, pg, FpA, FpG, hB, hL, hA, hG, hP⟩ := H
 dsimp only at hB hL hA hG
 have ap_FpL_b := hP.lb
 obtain ⟨hn1, hn2, hw1, hw2⟩ := hL.bd
 have gA_FpG := fun g (hg : FpG g) => (Or.inl trivial : True ∨ w.heap.size ≤ g)
 have hF := Only.refl (fun _ => False) w
 refine Zen 91 Try.func13 ?_
 refine Zsr ?_
 refine Za ?_
 refine Za ?_
 refine Znn ?_
 refine Zsq ?_
 refine Zsr ?_
 refine Zm ?_
 refine Zk cf43 (cnone_c hB) ?_
 rintro v w9 ⟨rfl, hw9⟩
 obtain rfl := hw9.symm
 refine Znn ?_
 refine Zcf ?_
 refine Zsk ?_
 refine Znx ?_
 refine Zsr ?_
 refine Zm ?_
 refine Zm ?_
 refine Zk (args := #[.pointer (some ⟨b, 0, none⟩), .int .u32 line]) cf34 (state_c line (by omega) hB hL ap_FpL_b) ?_
 rintro v w3 ⟨rfl, hN4⟩
 refine Za ?_
 refine Znn ?_
 refine Zsq ?_
 refine Zbl ?_
 refine Zsq ?_
 replace hA := hA.new hN4
 obtain ⟨rfl, hA0⟩ := hA
 replace hG := hG.new hN4
 obtain ⟨bg, rfl, hGB, hGF⟩ := hG
 have gi_bg := gA_FpG bg ((hGF bg).2 rfl)
 refine Zrg ?_
 refine Zm ?_
 refine Zn ?_
 refine Zf fo83_2 ?_
 replace hB := hB.new hN4
 refine Zd pl80 (hB.cell 2 rfl) ?_
 refine Zv (.bool false) (fun _ fr => x_pneq Try.underlying80 rfl (fr.ev rfl) rfl rfl) ?_
 refine Zm ?_
 refine Zm ?_
 refine Zn ?_
 refine Zf fo83_3 ?_
 refine Zd pl81 (hB.cell 3 rfl) ?_
 refine Zv (.bool true) (fun _ fr => x_pneq Try.underlying81 rfl (fr.ev rfl) rfl rfl) ?_
 refine Zm ?_
 refine Zm ?_
 refine Zn ?_
 refine Zf fo83_3 ?_
 refine Zd pl81 (hB.cell 3 rfl) ?_
 refine Zn ?_
 refine Zf fo39_0 ?_
 refine Zd (v := .int .u32 gx.num) pl32 (hGB.cell 0 rfl) ?_
 refine Zm ?_
 refine Zv (.bool false) (fun _ fr => x_eql rfl (fr.ev rfl) (fr.ev rfl) (decide_eq_false hg)) ?_
 refine Zpt ?_
 refine Zpf ?_
 refine Za ?_
 refine Znn ?_
 refine Zcf ?_
 refine Zsr ?_
 refine Zm ?_
 refine Zv (.bool false) (fun _ fr => x_neq rfl (fr.ev rfl) rfl (decide_eq_false hs)) ?_
 refine Zm ?_
 refine Zs ?_
 refine Zs ?_
 refine Zs ?_
 refine Zs ?_
 refine Zs ?_
 refine Zs ?_
 refine Zpf ?_
 refine Za ?_
 refine Znn ?_
 refine Zcf ?_
 refine Zsk ?_
 refine Zb ?_
 refine Znx ?_
 refine Zsq ?_
 refine Zsr ?_
 refine Zm ?_
 refine Zn ?_
 refine Zf fo83_1 ?_
 refine Zd pl79 (hB.cell 1 rfl) ?_
 refine Zm ?_
 refine Zm ?_
 replace hL := hL.new hN4
 refine Zk (args := #[.pointer (some ⟨lb, 0, none⟩), .int .u32 line, .int .i64 pick]) cf45 (victim_c line (by omega) pick hL) ?_
 rintro v w5 ⟨rfl, hN6⟩
 intro a fr
 rw [hv] at fr
 simp only [Option.getD_some, Option.isSome_some] at fr
 revert a
 refine Zm ?_
 refine Zt ?_
 refine Zt ?_
 refine Zna (z := zv1) (cs := lnE.arr ln0) (by kernel_rfl) fun b7 w8 hN9 B10 hb11 => ?_
 replace hB := hB.new hN6
 have ne_b_b7 : NE b b7 := NE.mk (Nat.lt_of_lt_of_le hB.lt hb11)
 replace hL := hL.new hN6
 have ap_FpL_b7 : ¬ FpL b7 := hL.apart hb11
 replace hF := (hF.trNew hN4).trNew hN6
 have g_b7 := Nat.le_trans hF.size hb11
 refine ZsS sz39 (lnE.all _) B10 (lnE.size _) (lnE.size _) fun w12 hO13 hBq => ?_
 replace B10 := hBq
 clear hBq
 refine Za ?_
 refine Znn ?_
 refine Zsr ?_
 refine Zm ?_
 refine Znn ?_
 refine Zct ?_
 refine Zsr ?_
 refine Zm ?_
 refine ZE lnE ag39 (B10.rangeE lnE) ?_
 replace hB := (hB.new hN9).only hO13 ne_b_b7
 replace hL := (hL.new hN9).only hO13 (ne1P ap_FpL_b7)
 refine Zk cf46 (out_b hB hL ap_FpL_b vx hx) ?_
 rintro v w14 ⟨rfl, hN15⟩
 refine Zm ?_
 refine Zt ?_
 refine Zt ?_
 refine Za ?_
 refine Za ?_
 refine Znn ?_
 refine Zsq ?_
 refine Zsr ?_
 refine Zm ?_
 refine Zv (.bool true) (fun _ fr => x_not rfl (fr.ev rfl) rfl) ?_
 refine Znn ?_
 refine Zct ?_
 refine Zsr ?_
 refine Za ?_
 refine Za ?_
 refine Znn ?_
 refine Zrt ?_
 refine Zr1 ?_
 refine Zr1 ?_
 refine Zre rfl [_, _] ⟨rfl, rfl, trivial⟩ ?_
 replace hF := ((hF.trNew hN9).loc hO13 (.inr g_b7)).trNew hN15
 exact ⟨_, rfl, rfl, hF⟩
set_option maxRecDepth 100000 in
set_option maxHeartbeats 4000000 in
theorem ask_nw1s {w : World} {Fp : Nat → Prop} {b : Nat} {id : Int} {n : Nat} {ways : Int} {L : List Ln} {gx : Ln} (H : CacheAt w Fp b ⟨id, n, ways, L, none, (some gx)⟩) (line : Int) (hln : 0 ≤ line ∧ line < 4294967296) (pick : Int) (hg : ¬ gx.num = line) (hs : stateOf L line ≠ 0) (hw : writesB (stateOf L line) = false) (hv : vicL n ways L line pick = none) : Calls Try.prog 13 #[.pointer (some ⟨b, 0, none⟩), .int .u32 line, .bool true, .int .i64 pick] w (Ret fun v w' => ∃ A' cap', v = .tuple #[.slice A' ([askM id line true hln]).length cap', .int .i64 0] ∧ Own msgE w' A' cap' ([askM id line true hln]) ∧ (∀ g, inA A' g → w.heap.size ≤ g) ∧ ∃ Fp', CacheAt w' Fp' b ⟨id, n, ways, L, (some (line, true)), (some gx)⟩ ∧ Only Fp w w' ∧ ∀ g, Fp' g → Fp g ∨ w.heap.size ≤ g) := by
 obtain ⟨lb, FpL, pa, pg, FpA, FpG, hB, hL, hA, hG, hP⟩ := H
 dsimp only at hB hL hA hG
 have ap_FpL_b := hP.lb
 have ap_FpG_b := hP.gb
 have ap2_FpL_FpG := hP.lg
 obtain ⟨hn1, hn2, hw1, hw2⟩ := hL.bd
 have gA_FpL : ∀ g, FpL g → Fp g ∨ w.heap.size ≤ g := fun g hg => .inl ((hP.foot g).2 (.inr (.inl hg)))
 have gA_FpG : ∀ g, FpG g → Fp g ∨ w.heap.size ≤ g := fun g hg => .inl ((hP.foot g).2 (.inr (.inr (.inr hg))))
 have hF := Only.refl (Fp) w
 refine Zen 91 Try.func13 ?_
 refine Zsr ?_
 refine Za ?_
 refine Za ?_
 refine Znn ?_
 refine Zsq ?_
 refine Zsr ?_
 refine Zm ?_
 refine Zk cf43 (cnone_c hB) ?_
 rintro v w9 ⟨rfl, hw9⟩
 obtain rfl := hw9.symm
 refine Znn ?_
 refine Zcf ?_
 refine Zsk ?_
 refine Znx ?_
 refine Zsr ?_
 refine Zm ?_
 refine Zm ?_
 refine Zk (args := #[.pointer (some ⟨b, 0, none⟩), .int .u32 line]) cf34 (state_c line (by omega) hB hL ap_FpL_b) ?_
 rintro v w3 ⟨rfl, hN4⟩
 refine Za ?_
 refine Znn ?_
 refine Zsq ?_
 refine Zbl ?_
 refine Zsq ?_
 replace hA := hA.new hN4
 obtain ⟨rfl, hA0⟩ := hA
 replace hG := hG.new hN4
 obtain ⟨bg, rfl, hGB, hGF⟩ := hG
 have ne_bg_b : NE bg b := fun e => ap_FpG_b (e ▸ (hGF bg).2 rfl)
 have ap_FpL_bg : ¬ FpL bg := fun h => ap2_FpL_FpG bg h ((hGF bg).2 rfl)
 have gi_bg := gA_FpG bg ((hGF bg).2 rfl)
 refine Zrg ?_
 refine Zm ?_
 refine Zn ?_
 refine Zf fo83_2 ?_
 replace hB := hB.new hN4
 refine Zd pl80 (hB.cell 2 rfl) ?_
 refine Zv (.bool false) (fun _ fr => x_pneq Try.underlying80 rfl (fr.ev rfl) rfl rfl) ?_
 refine Zm ?_
 refine Zm ?_
 refine Zn ?_
 refine Zf fo83_3 ?_
 refine Zd pl81 (hB.cell 3 rfl) ?_
 refine Zv (.bool true) (fun _ fr => x_pneq Try.underlying81 rfl (fr.ev rfl) rfl rfl) ?_
 refine Zm ?_
 refine Zm ?_
 refine Zn ?_
 refine Zf fo83_3 ?_
 refine Zd pl81 (hB.cell 3 rfl) ?_
 refine Zn ?_
 refine Zf fo39_0 ?_
 refine Zd (v := .int .u32 gx.num) pl32 (hGB.cell 0 rfl) ?_
 refine Zm ?_
 refine Zv (.bool false) (fun _ fr => x_eql rfl (fr.ev rfl) (fr.ev rfl) (decide_eq_false hg)) ?_
 refine Zpt ?_
 refine Zpf ?_
 refine Za ?_
 refine Znn ?_
 refine Zcf ?_
 refine Zsr ?_
 refine Zm ?_
 refine Zv (.bool true) (fun _ fr => x_neq rfl (fr.ev rfl) rfl (decide_eq_true hs)) ?_
 refine Zm ?_
 refine Zm ?_
 refine Zv (.bool false) (fun _ fr => x_not rfl (fr.ev rfl) rfl) ?_
 refine Zm ?_
 refine Zm ?_
 refine Zk cf44 (writes_c (stateOf L line) _) ?_
 rintro v _ ⟨rfl, hw9⟩
 obtain rfl := hw9.symm
 intro a fr
 rw [hw] at fr
 revert a
 refine Zpf ?_
 refine Zpt ?_
 refine Za ?_
 refine Znn ?_
 refine Zcf ?_
 refine Zsk ?_
 refine Zb ?_
 refine Znx ?_
 refine Zsq ?_
 refine Zsr ?_
 refine Zm ?_
 refine Zn ?_
 refine Zf fo83_1 ?_
 refine Zd pl79 (hB.cell 1 rfl) ?_
 refine Zm ?_
 refine Zm ?_
 replace hL := hL.new hN4
 refine Zk (args := #[.pointer (some ⟨lb, 0, none⟩), .int .u32 line, .int .i64 pick]) cf45 (victim_c line (by omega) pick hL) ?_
 rintro v w7 ⟨rfl, hN8⟩
 intro a fr
 rw [hv] at fr
 simp only [Option.getD_none, Option.isSome_none] at fr
 revert a
 refine Zm ?_
 refine Zt ?_
 refine Zt ?_
 refine Zna (z := zv1) (cs := lnE.arr ln0) (by kernel_rfl) fun b9 w10 hN11 B12 hb13 => ?_
 replace hB := hB.new hN8
 have ne_b_b9 : NE b b9 := NE.mk (Nat.lt_of_lt_of_le hB.lt hb13)
 replace hL := hL.new hN8
 have ap_FpL_b9 : ¬ FpL b9 := hL.apart hb13
 replace hGB := hGB.new hN8
 have ne_bg_b9 : NE bg b9 := NE.mk (Nat.lt_of_lt_of_le hGB.lt hb13)
 replace hF := (hF.trNew hN4).trNew hN8
 have g_b9 := Nat.le_trans hF.size hb13
 refine ZsS sz39 (lnE.all _) B12 (lnE.size _) (lnE.size _) fun w14 hO15 hBq => ?_
 clear hBq
 refine Za ?_
 refine Znn ?_
 refine Zsr ?_
 refine Zm ?_
 refine Znn ?_
 refine Zcf ?_
 refine Zsk ?_
 refine Znx ?_
 refine Zsr ?_
 refine Zm ?_
 refine Zm ?_
 refine Zm ?_
 refine Zv (.agg (#[.int .u32 line, .bool true])) (fun a fr => x_build (cells := #[.int .u32 line, .bool true]) rfl (by simp only [List.map_toArray, List.map_cons, List.map_nil, show a.eval (.tmp 77) = .int .u32 line from fr.ev rfl, show a.eval (.tmp 78) = .bool true from fr.ev rfl]; kernel_rfl)) ?_
 refine Znb (cs := #[.int .u32 line, .bool true]) fun b16 w17 hN18 B19 hb20 => ?_
 replace hB := (hB.new hN11).only hO15 ne_b_b9
 have ne_b_b16 : NE b b16 := NE.mk (Nat.lt_of_lt_of_le hB.lt hb20)
 replace hL := (hL.new hN11).only hO15 (ne1P ap_FpL_b9)
 have ap_FpL_b16 : ¬ FpL b16 := hL.apart hb20
 replace hGB := (hGB.new hN11).only hO15 ne_bg_b9
 have ne_bg_b16 : NE bg b16 := NE.mk (Nat.lt_of_lt_of_le hGB.lt hb20)
 replace hF := (hF.trNew hN11).loc hO15 (.inr g_b9)
 have g_b16 := Nat.le_trans hF.size hb20
 refine Zn ?_
 refine Zf fo83_2 ?_
 replace hB := hB.new hN18
 refine Zs1 (cs' := #[.int .i64 id, .pointer (some ⟨lb, 0, none⟩), .pointer (some ⟨b16, 0, none⟩), .pointer (some ⟨bg, 0, none⟩)]) sz80 hB (show 2 < 4 by decide) rfl fun w21 hO22 hBq => ?_
 replace hB := hBq
 clear hBq
 refine Znn ?_
 refine Zsr ?_
 refine Za ?_
 refine Znn ?_
 refine Zsq ?_
 refine Zsr ?_
 refine Zm ?_
 refine Znn ?_
 refine Zct ?_
 refine Zrg ?_
 refine Za ?_
 refine Znn ?_
 refine Zsr ?_
 refine Zm ?_
 refine Zm ?_
 refine Zm ?_
 refine Zm ?_
 refine Zk (args := #[.pointer (some ⟨b, 0, none⟩), .int .i64 2, .int .u32 line]) cf47 (msg_c hB 2 line (by omega)) ?_
 rintro v w23 ⟨rfl, hN24⟩
 intro a fr
 refine fx_build1 (E := msgE) (p := (mkM 2 id 4 line)) elMsg (by decide) fr rfl rfl (by decide) rfl (fr.ev rfl) ?_
 clear fr a
 intro A25 w26 hN27 O28 hA29
 intro a fr
 refine fx_append (E := msgE) (l := []) (l' := [(mkM 2 id 4 line)]) elMsg fr rfl rfl (by decide) rfl (fr.ev rfl) (fr.ev rfl) (by first | rfl | (simp; done) | (simp; omega)) (by first | rfl | (simp; done) | (simp; omega)) Own.nil O28.view (by first | omega | (simp only [List.length_append, List.length_cons, List.length_nil, List.nil_append]; omega)) (by first | (unfold maxLen; done) | (unfold maxLen; first | omega | (simp; done) | (simp; omega))) ?_
 clear fr a
 intro A30 cap31 w32 O33 hO34 mv35
 replace hF := (((hF.trNew hN18).loc hO22 (.inl ((hP.foot b).2 (.inl rfl)))).trNew hN24).trNew hN27
 have gN_A30 := fun g (hg : inA A30 g) => (mv35 g hg).elim (fun h => absurd h (apart_none g)) (fun h => Nat.le_trans hF.size h)
 replace hO34 := only_none hO34
 refine Za ?_
 refine Za ?_
 refine Znn ?_
 refine Zrt ?_
 refine Zre rfl [_, _] ⟨rfl, rfl, trivial⟩ ?_
 have gi_b16 : Fp b16 ∨ w.heap.size ≤ b16 := .inr g_b16
 replace hL := ((((hL.new hN18).only hO22 (ne1P ap_FpL_b)).new hN24).new hN27).new hO34
 replace hGB := ((((hGB.new hN18).only hO22 ne_bg_b).new hN24).new hN27).new hO34
 replace B19 := (((B19.only hO22 ne_b_b16.symm).new hN24).new hN27).new hO34
 replace hB := ((hB.new hN24).new hN27).new hO34
 replace hF := hF.trNew hO34
 exact ⟨_, rfl, A30, cap31, rfl, O33, gN_A30, (fun k => k = b ∨ FpL k ∨ (fun k => k = b16) k ∨ (fun k => k = bg) k), ⟨lb, FpL, _, _, (fun k => k = b16), (fun k => k = bg), hB, hL, ⟨b16, rfl, B19, fun _ => Iff.rfl, hln⟩, ⟨bg, rfl, hGB, fun _ => Iff.rfl⟩, ⟨ap_FpL_b, (fun e => (show ¬ b = b16 from ne_b_b16) e), (fun e => (show ¬ b = bg from ne_bg_b.symm) e), (fun k hk e => ap_FpL_b16 (e ▸ hk)), (fun k hk e => ap_FpL_bg (e ▸ hk)), (fun k e e2 => (show ¬ b16 = bg from ne_bg_b16.symm) (e.symm.trans e2)), fun _ => Iff.rfl⟩⟩, hF, (fun g hg => hg.elim (fun e => by rw [e]; exact .inl ((hP.foot b).2 (.inl rfl))) fun h => h.elim (gA_FpL g) fun h => h.elim (fun e => by rw [e]; exact gi_b16) (fun e => by rw [e]; exact gi_bg))⟩
set_option maxRecDepth 100000 in
set_option maxHeartbeats 4000000 in
theorem ask_sw1s {w : World} {Fp : Nat → Prop} {b : Nat} {id : Int} {n : Nat} {ways : Int} {L : List Ln} {gx : Ln} (H : CacheAt w Fp b ⟨id, n, ways, L, none, (some gx)⟩) (line : Int) (hln : 0 ≤ line ∧ line < 4294967296) (pick : Int) (hg : ¬ gx.num = line) (hs : stateOf L line ≠ 0) (hw : writesB (stateOf L line) = false) (vx : Ln) (hv : vicL n ways L line pick = some vx) (hx : vx.state = 1) : Calls Try.prog 13 #[.pointer (some ⟨b, 0, none⟩), .int .u32 line, .bool true, .int .i64 pick] w (Ret fun v w' => ∃ A' cap', v = .tuple #[.slice A' ([askM id line true hln]).length cap', .int .i64 0] ∧ Own msgE w' A' cap' ([askM id line true hln]) ∧ (∀ g, inA A' g → w.heap.size ≤ g) ∧ ∃ Fp', CacheAt w' Fp' b ⟨id, n, ways, dropL L vx.num, (some (line, true)), (some gx)⟩ ∧ Only Fp w w' ∧ ∀ g, Fp' g → Fp g ∨ w.heap.size ≤ g) := by
 obtain ⟨lb, FpL, pa, pg, FpA, FpG, hB, hL, hA, hG, hP⟩ := H
 dsimp only at hB hL hA hG
 have ap_FpL_b := hP.lb
 have ap_FpG_b := hP.gb
 have ap2_FpL_FpG := hP.lg
 obtain ⟨hn1, hn2, hw1, hw2⟩ := hL.bd
 have gA_FpL : ∀ g, FpL g → Fp g ∨ w.heap.size ≤ g := fun g hg => .inl ((hP.foot g).2 (.inr (.inl hg)))
 have gA_FpG : ∀ g, FpG g → Fp g ∨ w.heap.size ≤ g := fun g hg => .inl ((hP.foot g).2 (.inr (.inr (.inr hg))))
 have hF := Only.refl (Fp) w
 refine Zen 91 Try.func13 ?_
 refine Zsr ?_
 refine Za ?_
 refine Za ?_
 refine Znn ?_
 refine Zsq ?_
 refine Zsr ?_
 refine Zm ?_
 refine Zk cf43 (cnone_c hB) ?_
 rintro v w9 ⟨rfl, hw9⟩
 obtain rfl := hw9.symm
 refine Znn ?_
 refine Zcf ?_
 refine Zsk ?_
 refine Znx ?_
 refine Zsr ?_
 refine Zm ?_
 refine Zm ?_
 refine Zk (args := #[.pointer (some ⟨b, 0, none⟩), .int .u32 line]) cf34 (state_c line (by omega) hB hL ap_FpL_b) ?_
 rintro v w3 ⟨rfl, hN4⟩
 refine Za ?_
 refine Znn ?_
 refine Zsq ?_
 refine Zbl ?_
 refine Zsq ?_
 replace hA := hA.new hN4
 obtain ⟨rfl, hA0⟩ := hA
 replace hG := hG.new hN4
 obtain ⟨bg, rfl, hGB, hGF⟩ := hG
 have ne_bg_b : NE bg b := fun e => ap_FpG_b (e ▸ (hGF bg).2 rfl)
 have ap_FpL_bg : ¬ FpL bg := fun h => ap2_FpL_FpG bg h ((hGF bg).2 rfl)
 have gi_bg := gA_FpG bg ((hGF bg).2 rfl)
 refine Zrg ?_
 refine Zm ?_
 refine Zn ?_
 refine Zf fo83_2 ?_
 replace hB := hB.new hN4
 refine Zd pl80 (hB.cell 2 rfl) ?_
 refine Zv (.bool false) (fun _ fr => x_pneq Try.underlying80 rfl (fr.ev rfl) rfl rfl) ?_
 refine Zm ?_
 refine Zm ?_
 refine Zn ?_
 refine Zf fo83_3 ?_
 refine Zd pl81 (hB.cell 3 rfl) ?_
 refine Zv (.bool true) (fun _ fr => x_pneq Try.underlying81 rfl (fr.ev rfl) rfl rfl) ?_
 refine Zm ?_
 refine Zm ?_
 refine Zn ?_
 refine Zf fo83_3 ?_
 refine Zd pl81 (hB.cell 3 rfl) ?_
 refine Zn ?_
 refine Zf fo39_0 ?_
 refine Zd (v := .int .u32 gx.num) pl32 (hGB.cell 0 rfl) ?_
 refine Zm ?_
 refine Zv (.bool false) (fun _ fr => x_eql rfl (fr.ev rfl) (fr.ev rfl) (decide_eq_false hg)) ?_
 refine Zpt ?_
 refine Zpf ?_
 refine Za ?_
 refine Znn ?_
 refine Zcf ?_
 refine Zsr ?_
 refine Zm ?_
 refine Zv (.bool true) (fun _ fr => x_neq rfl (fr.ev rfl) rfl (decide_eq_true hs)) ?_
 refine Zm ?_
 refine Zm ?_
 refine Zv (.bool false) (fun _ fr => x_not rfl (fr.ev rfl) rfl) ?_
 refine Zm ?_
 refine Zm ?_
 refine Zk cf44 (writes_c (stateOf L line) _) ?_
 rintro v _ ⟨rfl, hw9⟩
 obtain rfl := hw9.symm
 intro a fr
 rw [hw] at fr
 revert a
 refine Zpf ?_
 refine Zpt ?_
 refine Za ?_
 refine Znn ?_
 refine Zcf ?_
 refine Zsk ?_
 refine Zb ?_
 refine Znx ?_
 refine Zsq ?_
 refine Zsr ?_
 refine Zm ?_
 refine Zn ?_
 refine Zf fo83_1 ?_
 refine Zd pl79 (hB.cell 1 rfl) ?_
 refine Zm ?_
 refine Zm ?_
 replace hL := hL.new hN4
 refine Zk (args := #[.pointer (some ⟨lb, 0, none⟩), .int .u32 line, .int .i64 pick]) cf45 (victim_c line (by omega) pick hL) ?_
 rintro v w7 ⟨rfl, hN8⟩
 intro a fr
 rw [hv] at fr
 simp only [Option.getD_some, Option.isSome_some] at fr
 revert a
 refine Zm ?_
 refine Zt ?_
 refine Zt ?_
 refine Zna (z := zv1) (cs := lnE.arr ln0) (by kernel_rfl) fun b9 w10 hN11 B12 hb13 => ?_
 replace hB := hB.new hN8
 have ne_b_b9 : NE b b9 := NE.mk (Nat.lt_of_lt_of_le hB.lt hb13)
 replace hL := hL.new hN8
 have ap_FpL_b9 : ¬ FpL b9 := hL.apart hb13
 replace hGB := hGB.new hN8
 have ne_bg_b9 : NE bg b9 := NE.mk (Nat.lt_of_lt_of_le hGB.lt hb13)
 replace hF := (hF.trNew hN4).trNew hN8
 have g_b9 := Nat.le_trans hF.size hb13
 refine ZsS sz39 (lnE.all _) B12 (lnE.size _) (lnE.size _) fun w14 hO15 hBq => ?_
 replace B12 := hBq
 clear hBq
 refine Za ?_
 refine Znn ?_
 refine Zsr ?_
 refine Zm ?_
 refine Znn ?_
 refine Zct ?_
 refine Zsr ?_
 refine Zm ?_
 refine ZE lnE ag39 (B12.rangeE lnE) ?_
 replace hB := (hB.new hN11).only hO15 ne_b_b9
 replace hL := (hL.new hN11).only hO15 (ne1P ap_FpL_b9)
 refine Zk cf46 (out_s hB hL ap_FpL_b vx hx) ?_
 rintro v w20 ⟨rfl, hB16, Fp17, H18, mv19, hN21⟩
 have ap_Fp17_b : ¬ Fp17 b := moved_apartP mv19 ap_FpL_b hB.lt
 replace hGB := (hGB.new hN11).only hO15 ne_bg_b9
 have ap_Fp17_bg : ¬ Fp17 bg := moved_apartP mv19 ap_FpL_bg hGB.lt
 replace hF := (hF.trNew hN11).loc hO15 (.inr g_b9)
 have gA_Fp17 := gA_movedP hF mv19 gA_FpL
 clear hL
 replace hB := hB16
 clear hB16
 refine Zm ?_
 refine Zt ?_
 refine Zt ?_
 refine Za ?_
 refine Za ?_
 refine Znn ?_
 refine Zsq ?_
 refine Zsr ?_
 refine Zm ?_
 refine Zv (.bool false) (fun _ fr => x_not rfl (fr.ev rfl) rfl) ?_
 refine Znn ?_
 refine Zcf ?_
 refine Zsk ?_
 refine Znx ?_
 refine Zrg ?_
 refine Zm ?_
 refine Za ?_
 refine Znn ?_
 refine Zsr ?_
 refine Zm ?_
 refine Zm ?_
 refine Zm ?_
 refine Zv (.agg (#[.int .u32 line, .bool true])) (fun a fr => x_build (cells := #[.int .u32 line, .bool true]) rfl (by simp only [List.map_toArray, List.map_cons, List.map_nil, show a.eval (.tmp 77) = .int .u32 line from fr.ev rfl, show a.eval (.tmp 78) = .bool true from fr.ev rfl]; kernel_rfl)) ?_
 refine Znb (cs := #[.int .u32 line, .bool true]) fun b22 w23 hN24 B25 hb26 => ?_
 replace hGB := hGB.only hN21 (fun h => h.elim ne_bg_b ap_FpL_bg)
 have ne_bg_b22 : NE bg b22 := NE.mk (Nat.lt_of_lt_of_le hGB.lt hb26)
 have ne_b_b22 : NE b b22 := NE.mk (Nat.lt_of_lt_of_le hB.lt hb26)
 have ap_Fp17_b22 : ¬ Fp17 b22 := H18.apart hb26
 replace hF := hF.locS hN21 (fun i => (fun h => h.elim (fun e => by rw [e]; exact (.inl ((hP.foot b).2 (.inl rfl)))) (fun h => gA_FpL i h)))
 have g_b22 := Nat.le_trans hF.size hb26
 refine Zn ?_
 refine Zf fo83_2 ?_
 replace hB := hB.new hN24
 refine Zs1 (cs' := #[.int .i64 id, .pointer (some ⟨lb, 0, none⟩), .pointer (some ⟨b22, 0, none⟩), .pointer (some ⟨bg, 0, none⟩)]) sz80 hB (show 2 < 4 by decide) rfl fun w27 hO28 hBq => ?_
 replace hB := hBq
 clear hBq
 refine Znn ?_
 refine Zsr ?_
 refine Za ?_
 refine Znn ?_
 refine Zsq ?_
 refine Zsr ?_
 refine Zm ?_
 refine Znn ?_
 refine Zct ?_
 refine Zrg ?_
 refine Za ?_
 refine Znn ?_
 refine Zsr ?_
 refine Zm ?_
 refine Zm ?_
 refine Zm ?_
 refine Zm ?_
 refine Zk (args := #[.pointer (some ⟨b, 0, none⟩), .int .i64 2, .int .u32 line]) cf47 (msg_c hB 2 line (by omega)) ?_
 rintro v w29 ⟨rfl, hN30⟩
 intro a fr
 refine fx_build1 (E := msgE) (p := (mkM 2 id 4 line)) elMsg (by decide) fr rfl rfl (by decide) rfl (fr.ev rfl) ?_
 clear fr a
 intro A31 w32 hN33 O34 hA35
 intro a fr
 refine fx_append (E := msgE) (l := []) (l' := [(mkM 2 id 4 line)]) elMsg fr rfl rfl (by decide) rfl (fr.ev rfl) (fr.ev rfl) (by first | rfl | (simp; done) | (simp; omega)) (by first | rfl | (simp; done) | (simp; omega)) Own.nil O34.view (by first | omega | (simp only [List.length_append, List.length_cons, List.length_nil, List.nil_append]; omega)) (by first | (unfold maxLen; done) | (unfold maxLen; first | omega | (simp; done) | (simp; omega))) ?_
 clear fr a
 intro A36 cap37 w38 O39 hO40 mv41
 replace hF := (((hF.trNew hN24).loc hO28 (.inl ((hP.foot b).2 (.inl rfl)))).trNew hN30).trNew hN33
 have gN_A36 := fun g (hg : inA A36 g) => (mv41 g hg).elim (fun h => absurd h (apart_none g)) (fun h => Nat.le_trans hF.size h)
 replace hO40 := only_none hO40
 refine Za ?_
 refine Za ?_
 refine Znn ?_
 refine Zrt ?_
 refine Zre rfl [_, _] ⟨rfl, rfl, trivial⟩ ?_
 have gi_b22 : Fp b22 ∨ w.heap.size ≤ b22 := .inr g_b22
 replace hGB := ((((hGB.new hN24).only hO28 ne_bg_b).new hN30).new hN33).new hO40
 replace H18 := ((((H18.new hN24).only hO28 (ne1P ap_Fp17_b)).new hN30).new hN33).new hO40
 replace B25 := (((B25.only hO28 ne_b_b22.symm).new hN30).new hN33).new hO40
 replace hB := ((hB.new hN30).new hN33).new hO40
 replace hF := hF.trNew hO40
 exact ⟨_, rfl, A36, cap37, rfl, O39, gN_A36, (fun k => k = b ∨ Fp17 k ∨ (fun k => k = b22) k ∨ (fun k => k = bg) k), ⟨lb, Fp17, _, _, (fun k => k = b22), (fun k => k = bg), hB, H18, ⟨b22, rfl, B25, fun _ => Iff.rfl, hln⟩, ⟨bg, rfl, hGB, fun _ => Iff.rfl⟩, ⟨ap_Fp17_b, (fun e => (show ¬ b = b22 from ne_b_b22) e), (fun e => (show ¬ b = bg from ne_bg_b.symm) e), (fun k hk e => ap_Fp17_b22 (e ▸ hk)), (fun k hk e => ap_Fp17_bg (e ▸ hk)), (fun k e e2 => (show ¬ b22 = bg from ne_bg_b22.symm) (e.symm.trans e2)), fun _ => Iff.rfl⟩⟩, hF, (fun g hg => hg.elim (fun e => by rw [e]; exact .inl ((hP.foot b).2 (.inl rfl))) fun h => h.elim (gA_Fp17 g) fun h => h.elim (fun e => by rw [e]; exact gi_b22) (fun e => by rw [e]; exact gi_bg))⟩
set_option maxRecDepth 100000 in
set_option maxHeartbeats 4000000 in
theorem ask_bw1s {w : World} {Fp : Nat → Prop} {b : Nat} {id : Int} {n : Nat} {ways : Int} {L : List Ln} {gx : Ln} (H : CacheAt w Fp b ⟨id, n, ways, L, none, (some gx)⟩) (line : Int) (hln : 0 ≤ line ∧ line < 4294967296) (pick : Int) (hg : ¬ gx.num = line) (hs : stateOf L line ≠ 0) (hw : writesB (stateOf L line) = false) (vx : Ln) (hv : vicL n ways L line pick = some vx) (hx : ¬ vx.state = 1) : Calls Try.prog 13 #[.pointer (some ⟨b, 0, none⟩), .int .u32 line, .bool true, .int .i64 pick] w (Ret fun v w' => v = .tuple #[.slice none 0 0, .int .i64 230] ∧ New w w') := by
 obtain ⟨lb, FpL, pa, pg, FpA, FpG, hB, hL, hA, hG, hP⟩ := H
 dsimp only at hB hL hA hG
 have ap_FpL_b := hP.lb
 obtain ⟨hn1, hn2, hw1, hw2⟩ := hL.bd
 have gA_FpG := fun g (hg : FpG g) => (Or.inl trivial : True ∨ w.heap.size ≤ g)
 have hF := Only.refl (fun _ => False) w
 refine Zen 91 Try.func13 ?_
 refine Zsr ?_
 refine Za ?_
 refine Za ?_
 refine Znn ?_
 refine Zsq ?_
 refine Zsr ?_
 refine Zm ?_
 refine Zk cf43 (cnone_c hB) ?_
 rintro v w9 ⟨rfl, hw9⟩
 obtain rfl := hw9.symm
 refine Znn ?_
 refine Zcf ?_
 refine Zsk ?_
 refine Znx ?_
 refine Zsr ?_
 refine Zm ?_
 refine Zm ?_
 refine Zk (args := #[.pointer (some ⟨b, 0, none⟩), .int .u32 line]) cf34 (state_c line (by omega) hB hL ap_FpL_b) ?_
 rintro v w3 ⟨rfl, hN4⟩
 refine Za ?_
 refine Znn ?_
 refine Zsq ?_
 refine Zbl ?_
 refine Zsq ?_
 replace hA := hA.new hN4
 obtain ⟨rfl, hA0⟩ := hA
 replace hG := hG.new hN4
 obtain ⟨bg, rfl, hGB, hGF⟩ := hG
 have gi_bg := gA_FpG bg ((hGF bg).2 rfl)
 refine Zrg ?_
 refine Zm ?_
 refine Zn ?_
 refine Zf fo83_2 ?_
 replace hB := hB.new hN4
 refine Zd pl80 (hB.cell 2 rfl) ?_
 refine Zv (.bool false) (fun _ fr => x_pneq Try.underlying80 rfl (fr.ev rfl) rfl rfl) ?_
 refine Zm ?_
 refine Zm ?_
 refine Zn ?_
 refine Zf fo83_3 ?_
 refine Zd pl81 (hB.cell 3 rfl) ?_
 refine Zv (.bool true) (fun _ fr => x_pneq Try.underlying81 rfl (fr.ev rfl) rfl rfl) ?_
 refine Zm ?_
 refine Zm ?_
 refine Zn ?_
 refine Zf fo83_3 ?_
 refine Zd pl81 (hB.cell 3 rfl) ?_
 refine Zn ?_
 refine Zf fo39_0 ?_
 refine Zd (v := .int .u32 gx.num) pl32 (hGB.cell 0 rfl) ?_
 refine Zm ?_
 refine Zv (.bool false) (fun _ fr => x_eql rfl (fr.ev rfl) (fr.ev rfl) (decide_eq_false hg)) ?_
 refine Zpt ?_
 refine Zpf ?_
 refine Za ?_
 refine Znn ?_
 refine Zcf ?_
 refine Zsr ?_
 refine Zm ?_
 refine Zv (.bool true) (fun _ fr => x_neq rfl (fr.ev rfl) rfl (decide_eq_true hs)) ?_
 refine Zm ?_
 refine Zm ?_
 refine Zv (.bool false) (fun _ fr => x_not rfl (fr.ev rfl) rfl) ?_
 refine Zm ?_
 refine Zm ?_
 refine Zk cf44 (writes_c (stateOf L line) _) ?_
 rintro v _ ⟨rfl, hw9⟩
 obtain rfl := hw9.symm
 intro a fr
 rw [hw] at fr
 revert a
 refine Zpf ?_
 refine Zpt ?_
 refine Za ?_
 refine Znn ?_
 refine Zcf ?_
 refine Zsk ?_
 refine Zb ?_
 refine Znx ?_
 refine Zsq ?_
 refine Zsr ?_
 refine Zm ?_
 refine Zn ?_
 refine Zf fo83_1 ?_
 refine Zd pl79 (hB.cell 1 rfl) ?_
 refine Zm ?_
 refine Zm ?_
 replace hL := hL.new hN4
 refine Zk (args := #[.pointer (some ⟨lb, 0, none⟩), .int .u32 line, .int .i64 pick]) cf45 (victim_c line (by omega) pick hL) ?_
 rintro v w7 ⟨rfl, hN8⟩
 intro a fr
 rw [hv] at fr
 simp only [Option.getD_some, Option.isSome_some] at fr
 revert a
 refine Zm ?_
 refine Zt ?_
 refine Zt ?_
 refine Zna (z := zv1) (cs := lnE.arr ln0) (by kernel_rfl) fun b9 w10 hN11 B12 hb13 => ?_
 replace hB := hB.new hN8
 have ne_b_b9 : NE b b9 := NE.mk (Nat.lt_of_lt_of_le hB.lt hb13)
 replace hL := hL.new hN8
 have ap_FpL_b9 : ¬ FpL b9 := hL.apart hb13
 replace hF := (hF.trNew hN4).trNew hN8
 have g_b9 := Nat.le_trans hF.size hb13
 refine ZsS sz39 (lnE.all _) B12 (lnE.size _) (lnE.size _) fun w14 hO15 hBq => ?_
 replace B12 := hBq
 clear hBq
 refine Za ?_
 refine Znn ?_
 refine Zsr ?_
 refine Zm ?_
 refine Znn ?_
 refine Zct ?_
 refine Zsr ?_
 refine Zm ?_
 refine ZE lnE ag39 (B12.rangeE lnE) ?_
 replace hB := (hB.new hN11).only hO15 ne_b_b9
 replace hL := (hL.new hN11).only hO15 (ne1P ap_FpL_b9)
 refine Zk cf46 (out_b hB hL ap_FpL_b vx hx) ?_
 rintro v w16 ⟨rfl, hN17⟩
 refine Zm ?_
 refine Zt ?_
 refine Zt ?_
 refine Za ?_
 refine Za ?_
 refine Znn ?_
 refine Zsq ?_
 refine Zsr ?_
 refine Zm ?_
 refine Zv (.bool true) (fun _ fr => x_not rfl (fr.ev rfl) rfl) ?_
 refine Znn ?_
 refine Zct ?_
 refine Zsr ?_
 refine Za ?_
 refine Za ?_
 refine Znn ?_
 refine Zrt ?_
 refine Zr1 ?_
 refine Zr1 ?_
 refine Zre rfl [_, _] ⟨rfl, rfl, trivial⟩ ?_
 replace hF := ((hF.trNew hN11).loc hO15 (.inr g_b9)).trNew hN17
 exact ⟨_, rfl, rfl, hF⟩
end Go.Proofs.Ytflnlmibkbojcaa
namespace Go.Proofs.Ytflnlmibkbojcaa
open Go.RowKit
theorem allP_len {n : Nat} {ways : Int} {L : List Ln} (hf : Fits n ways L) : ∀ i, i ≤ n → ((allP n L i).length : Int) ≤ i * ways
  | 0, _ => by simp [allP]
  | i + 1, h => by
    have h1 := allP_len hf i (by omega)
    have h2 := hf i (by omega)
    rw [allP_succ, List.length_append]
    push_cast
    rw [Int.add_mul]
    omega
theorem len_most {n : Nat} {ways : Int} {L : List Ln} (hn : 0 < n ∧ n ≤ 64 ∧ 1 ≤ ways ∧ ways ≤ 8) (hf : Fits n ways L) : L.length ≤ 512 := by
  have h1 := allP_len hf n (Nat.le_refl n)
  rw [allP_end, allL_len hn.1] at h1
  have h2 : (n : Int) * ways ≤ 64 * 8 := Int.mul_le_mul (by omega) hn.2.2.2 (by omega) (by omega)
  omega
end Go.Proofs.Ytflnlmibkbojcaa
namespace Go.Proofs.Ytflnlmibkbojcaa
open Go.RowKit
set_option maxRecDepth 100000 in
set_option maxHeartbeats 4000000 in
theorem evict_e {w : World} {Fp : Nat → Prop} {b : Nat} {id : Int} {n : Nat} {ways : Int} {L : List Ln} {ask : Option (Int × Bool)} {giv : Option Ln} (H : CacheAt w Fp b ⟨id, n, ways, L, ask, giv⟩) (pick : Int) (h0 : L.length = 0) : Calls Try.prog 25 #[.pointer (some ⟨b, 0, none⟩), .int .i64 pick] w (Ret fun v w' => v = .slice none 0 0 ∧ New w w') := by
 obtain ⟨lb, FpL, pa, pg, FpA, FpG, hB, hL, hA, hG, hP⟩ := H
 dsimp only at hB hL hA hG
 have ap_FpL_b := hP.lb
 obtain ⟨hn1, hn2, hw1, hw2⟩ := hL.bd
 have hlm := len_most hL.bd hL.fits
 have hal := allL_len hL.bd.1 L
 have hF := Only.refl (fun _ => False) w
 refine Zen 32 Try.func25 ?_
 refine Zsr ?_
 refine Za ?_
 refine Znn ?_
 refine Zsr ?_
 refine Zm ?_
 refine Zk (args := #[.pointer (some ⟨b, 0, none⟩)]) cf30 (clines_c hB hL ap_FpL_b (by omega)) ?_
 rintro v w5 ⟨A1, cap2, rfl, O3, hA4, hN6⟩
 refine Za ?_
 refine Znn ?_
 refine Zsq ?_
 refine Zsq ?_
 have hlz : ((((allL n L).length) : Nat) : Int) = 0 := by omega
 refine Zrg ?_
 refine Zm ?_
 refine Zv _ (fun _ fr => x_len Try.underlying40 rfl (fr.ev rfl)) ?_
 refine Zv (.bool true) (fun _ fr => x_eql rfl (fr.ev rfl) rfl (decide_eq_true (by omega))) ?_
 refine Znn ?_
 refine Zct ?_
 refine Zsr ?_
 refine Za ?_
 refine Znn ?_
 refine Zrt ?_
 refine Zr1 ?_
 refine Zre rfl [_] ⟨rfl, trivial⟩ ?_
 replace hF := hF.trNew hN6
 exact ⟨_, rfl, rfl, hF⟩
set_option maxRecDepth 100000 in
set_option maxHeartbeats 4000000 in
theorem evict_s {w : World} {Fp : Nat → Prop} {b : Nat} {id : Int} {n : Nat} {ways : Int} {L : List Ln} {ask : Option (Int × Bool)} {giv : Option Ln} (H : CacheAt w Fp b ⟨id, n, ways, L, ask, giv⟩) (pick : Int) (h0 : ¬ L.length = 0) (hx : ((allL n L).getD (pickAt pick (allL n L).length) ln0).state = 1) : Calls Try.prog 25 #[.pointer (some ⟨b, 0, none⟩), .int .i64 pick] w (Ret fun v w' => ∃ A' cap', v = .slice A' (([] : List Msg)).length cap' ∧ Own msgE w' A' cap' (([] : List Msg)) ∧ (∀ g, inA A' g → w.heap.size ≤ g) ∧ ∃ Fp', CacheAt w' Fp' b ⟨id, n, ways, dropL L ((allL n L).getD (pickAt pick (allL n L).length) ln0).num, ask, giv⟩ ∧ Only Fp w w' ∧ ∀ g, Fp' g → Fp g ∨ w.heap.size ≤ g) := by
 obtain ⟨lb, FpL, pa, pg, FpA, FpG, hB, hL, hA, hG, hP⟩ := H
 dsimp only at hB hL hA hG
 have ap_FpL_b := hP.lb
 have ap_FpA_b := hP.ab
 have ap_FpG_b := hP.gb
 have ap2_FpL_FpA := hP.la
 have ap2_FpL_FpG := hP.lg
 have ap2_FpA_FpG := hP.ag
 obtain ⟨hn1, hn2, hw1, hw2⟩ := hL.bd
 have gA_FpL : ∀ g, FpL g → Fp g ∨ w.heap.size ≤ g := fun g hg => .inl ((hP.foot g).2 (.inr (.inl hg)))
 have gA_FpA : ∀ g, FpA g → Fp g ∨ w.heap.size ≤ g := fun g hg => .inl ((hP.foot g).2 (.inr (.inr (.inl hg))))
 have gA_FpG : ∀ g, FpG g → Fp g ∨ w.heap.size ≤ g := fun g hg => .inl ((hP.foot g).2 (.inr (.inr (.inr hg))))
 have hlm := len_most hL.bd hL.fits
 have hal := allL_len hL.bd.1 L
 have hF := Only.refl (Fp) w
 refine Zen 32 Try.func25 ?_
 refine Zsr ?_
 refine Za ?_
 refine Znn ?_
 refine Zsr ?_
 refine Zm ?_
 refine Zk (args := #[.pointer (some ⟨b, 0, none⟩)]) cf30 (clines_c hB hL ap_FpL_b (by omega)) ?_
 rintro v w5 ⟨A1, cap2, rfl, O3, hA4, hN6⟩
 refine Za ?_
 refine Znn ?_
 refine Zsq ?_
 refine Zsq ?_
 have hlz : ¬ ((((allL n L).length) : Nat) : Int) = 0 := by omega
 refine Zrg ?_
 refine Zm ?_
 refine Zv _ (fun _ fr => x_len Try.underlying40 rfl (fr.ev rfl)) ?_
 refine Zv (.bool false) (fun _ fr => x_eql rfl (fr.ev rfl) rfl (decide_eq_false hlz)) ?_
 refine Znn ?_
 refine Zcf ?_
 refine Zsk ?_
 refine Znx ?_
 refine Zsq ?_
 have hps : 0 < (allL n L).length := by omega
 have htb := tmod_bd pick ((allL n L).length) hps
 have hpk := pickAt_lt pick ((allL n L).length) hps
 refine Zrg ?_
 refine Zm ?_
 refine Zm ?_
 refine Zm ?_
 refine Zm ?_
 refine Zv _ (fun _ fr => x_len Try.underlying40 rfl (fr.ev rfl)) ?_
 refine Zv (.int .i64 (Int.tmod pick (((allL n L).length : Nat) : Int))) (fun _ fr => x_rem rfl (fr.ev rfl) (fr.ev rfl) (by omega) rfl) ?_
 refine Zm ?_
 refine Zv _ (fun _ fr => x_len Try.underlying40 rfl (fr.ev rfl)) ?_
 refine Zv _ (fun _ fr => x_add rfl (fr.ev rfl) (fr.ev rfl) (i64w (r := Int.tmod pick (((allL n L).length : Nat) : Int) + (((allL n L).length : Nat) : Int)) (by omega) (by omega))) ?_
 refine Zm ?_
 refine Zv _ (fun _ fr => x_len Try.underlying40 rfl (fr.ev rfl)) ?_
 refine Zv (.int .i64 ((pickAt pick ((allL n L).length) : Nat) : Int)) (fun _ fr => x_rem rfl (fr.ev rfl) (fr.ev rfl) (by omega) (pickAt_eq pick ((allL n L).length) (by omega))) ?_
 obtain ⟨g7, o8, hA9⟩ := (O3.view).some_ (by omega)
 refine Zv (.pointer (some ⟨g7, o8 + (pickAt pick ((allL n L).length)) * 18, none⟩)) (fun _ fr => x_indexV Try.underlying40 sz39 rfl (fr.ev rfl) hA9 (fr.ev rfl) (by omega) rfl) ?_
 refine ZE lnE ag39 ((O3.view).elem hA9 (pickAt pick ((allL n L).length)) ln0 (by omega)) ?_
 replace hB := hB.new hN6
 replace hL := hL.new hN6
 refine Zk cf46 (out_s hB hL ap_FpL_b ((allL n L).getD (pickAt pick ((allL n L).length)) ln0) hx) ?_
 rintro v w14 ⟨rfl, hB10, Fp11, H12, mv13, hN15⟩
 have ap_Fp11_b : ¬ Fp11 b := moved_apartP mv13 ap_FpL_b hB.lt
 replace hA := hA.new hN6
 have ap2_Fp11_FpA : ∀ k, Fp11 k → FpA k → False := moved_apart2P mv13 ap2_FpL_FpA fun _ hg => hA.lt hg
 replace hG := hG.new hN6
 have ap2_Fp11_FpG : ∀ k, Fp11 k → FpG k → False := moved_apart2P mv13 ap2_FpL_FpG fun _ hg => hG.lt hg
 replace hF := hF.trNew hN6
 have gA_Fp11 := gA_movedP hF mv13 gA_FpL
 clear hL
 replace hB := hB10
 clear hB10
 refine Zm ?_
 refine Zt ?_
 refine Zt ?_
 refine Za ?_
 refine Za ?_
 refine Znn ?_
 refine Zsr ?_
 refine Zm ?_
 refine Za ?_
 refine Znn ?_
 refine Zrt ?_
 refine Zre rfl [_] ⟨rfl, trivial⟩ ?_
 replace hA := hA.only hN15 (fun g hg => (fun h => h.elim ((ne1P ap_FpA_b) g hg) ((fun g h1 h2 => (symP ap2_FpL_FpA) g h1 h2) g hg)))
 replace hG := hG.only hN15 (fun g hg => (fun h => h.elim ((ne1P ap_FpG_b) g hg) ((fun g h1 h2 => (symP ap2_FpL_FpG) g h1 h2) g hg)))
 replace hF := hF.locS hN15 (fun i => (fun h => h.elim (fun e => by rw [e]; exact (.inl ((hP.foot b).2 (.inl rfl)))) (fun h => gA_FpL i h)))
 exact ⟨_, rfl, none, 0, rfl, Own.nil, (fun g hg => absurd hg (apart_none g)), (fun k => k = b ∨ Fp11 k ∨ FpA k ∨ FpG k), ⟨lb, Fp11, _, _, FpA, FpG, hB, H12, hA, hG, ⟨ap_Fp11_b, ap_FpA_b, ap_FpG_b, ap2_Fp11_FpA, ap2_Fp11_FpG, ap2_FpA_FpG, fun _ => Iff.rfl⟩⟩, hF, (fun g hg => hg.elim (fun e => by rw [e]; exact .inl ((hP.foot b).2 (.inl rfl))) fun h => h.elim (gA_Fp11 g) fun h => h.elim (gA_FpA g) (gA_FpG g))⟩
set_option maxRecDepth 100000 in
set_option maxHeartbeats 4000000 in
theorem evict_p {w : World} {Fp : Nat → Prop} {b : Nat} {id : Int} {n : Nat} {ways : Int} {L : List Ln} {ask : Option (Int × Bool)} (H : CacheAt w Fp b ⟨id, n, ways, L, ask, none⟩) (pick : Int) (h0 : ¬ L.length = 0) (hx : ¬ ((allL n L).getD (pickAt pick (allL n L).length) ln0).state = 1) : Calls Try.prog 25 #[.pointer (some ⟨b, 0, none⟩), .int .i64 pick] w (Ret fun v w' => ∃ A' cap', v = .slice A' ([putM id ((allL n L).getD (pickAt pick (allL n L).length) ln0)]).length cap' ∧ Own msgE w' A' cap' ([putM id ((allL n L).getD (pickAt pick (allL n L).length) ln0)]) ∧ (∀ g, inA A' g → w.heap.size ≤ g) ∧ ∃ Fp', CacheAt w' Fp' b ⟨id, n, ways, dropL L ((allL n L).getD (pickAt pick (allL n L).length) ln0).num, ask, (some ((allL n L).getD (pickAt pick (allL n L).length) ln0))⟩ ∧ Only Fp w w' ∧ ∀ g, Fp' g → Fp g ∨ w.heap.size ≤ g) := by
 obtain ⟨lb, FpL, pa, pg, FpA, FpG, hB, hL, hA, hG, hP⟩ := H
 dsimp only at hB hL hA hG
 have ap_FpL_b := hP.lb
 have ap_FpA_b := hP.ab
 have ap2_FpL_FpA := hP.la
 obtain ⟨hn1, hn2, hw1, hw2⟩ := hL.bd
 have gA_FpL : ∀ g, FpL g → Fp g ∨ w.heap.size ≤ g := fun g hg => .inl ((hP.foot g).2 (.inr (.inl hg)))
 have gA_FpA : ∀ g, FpA g → Fp g ∨ w.heap.size ≤ g := fun g hg => .inl ((hP.foot g).2 (.inr (.inr (.inl hg))))
 have hlm := len_most hL.bd hL.fits
 have hal := allL_len hL.bd.1 L
 have hF := Only.refl (Fp) w
 refine Zen 32 Try.func25 ?_
 refine Zsr ?_
 refine Za ?_
 refine Znn ?_
 refine Zsq ?_
 obtain ⟨rfl, hG0⟩ := hG
 refine Zrg ?_
 refine Zm ?_
 refine Zk (args := #[.pointer (some ⟨b, 0, none⟩)]) cf30 (clines_c hB hL ap_FpL_b (by omega)) ?_
 rintro v w5 ⟨A1, cap2, rfl, O3, hA4, hN6⟩
 refine Za ?_
 refine Znn ?_
 refine Zsq ?_
 refine Zsq ?_
 have hlz : ¬ ((((allL n L).length) : Nat) : Int) = 0 := by omega
 refine Zrg ?_
 refine Zm ?_
 refine Zv _ (fun _ fr => x_len Try.underlying40 rfl (fr.ev rfl)) ?_
 refine Zv (.bool false) (fun _ fr => x_eql rfl (fr.ev rfl) rfl (decide_eq_false hlz)) ?_
 refine Znn ?_
 refine Zcf ?_
 refine Zsk ?_
 refine Znx ?_
 refine Zsq ?_
 have hps : 0 < (allL n L).length := by omega
 have htb := tmod_bd pick ((allL n L).length) hps
 have hpk := pickAt_lt pick ((allL n L).length) hps
 refine Zrg ?_
 refine Zm ?_
 refine Zm ?_
 refine Zm ?_
 refine Zm ?_
 refine Zv _ (fun _ fr => x_len Try.underlying40 rfl (fr.ev rfl)) ?_
 refine Zv (.int .i64 (Int.tmod pick (((allL n L).length : Nat) : Int))) (fun _ fr => x_rem rfl (fr.ev rfl) (fr.ev rfl) (by omega) rfl) ?_
 refine Zm ?_
 refine Zv _ (fun _ fr => x_len Try.underlying40 rfl (fr.ev rfl)) ?_
 refine Zv _ (fun _ fr => x_add rfl (fr.ev rfl) (fr.ev rfl) (i64w (r := Int.tmod pick (((allL n L).length : Nat) : Int) + (((allL n L).length : Nat) : Int)) (by omega) (by omega))) ?_
 refine Zm ?_
 refine Zv _ (fun _ fr => x_len Try.underlying40 rfl (fr.ev rfl)) ?_
 refine Zv (.int .i64 ((pickAt pick ((allL n L).length) : Nat) : Int)) (fun _ fr => x_rem rfl (fr.ev rfl) (fr.ev rfl) (by omega) (pickAt_eq pick ((allL n L).length) (by omega))) ?_
 obtain ⟨g7, o8, hA9⟩ := (O3.view).some_ (by omega)
 refine Zv (.pointer (some ⟨g7, o8 + (pickAt pick ((allL n L).length)) * 18, none⟩)) (fun _ fr => x_indexV Try.underlying40 sz39 rfl (fr.ev rfl) hA9 (fr.ev rfl) (by omega) rfl) ?_
 refine ZE lnE ag39 ((O3.view).elem hA9 (pickAt pick ((allL n L).length)) ln0 (by omega)) ?_
 replace hB := hB.new hN6
 replace hL := hL.new hN6
 refine Zk cf46 (out_n hB hL ap_FpL_b ((allL n L).getD (pickAt pick ((allL n L).length)) ln0) hx) ?_
 rintro v w21 ⟨A14, cap15, rfl, O16, hA17, b18, B19, hB10, hb20, Fp11, H12, mv13, ap_Fp11_b18, ap_A14_b18, ap2_Fp11_A14, hN22⟩
 have ap_Fp11_b : ¬ Fp11 b := moved_apartP mv13 ap_FpL_b hB.lt
 replace hA := hA.new hN6
 have ap2_Fp11_FpA : ∀ k, Fp11 k → FpA k → False := moved_apart2P mv13 ap2_FpL_FpA fun _ hg => hA.lt hg
 replace hF := hF.trNew hN6
 have gA_Fp11 := gA_movedP hF mv13 gA_FpL
 have ne_b_b18 : NE b b18 := NE.mk (Nat.lt_of_lt_of_le hB.lt hb20)
 have ap_FpA_b18 : ¬ FpA b18 := hA.apart hb20
 have g_b18 := Nat.le_trans hF.size hb20
 have gN_A14 := fun g (hg : inA A14 g) => Nat.le_trans hF.size (hA17 g hg)
 clear hL
 replace hB := hB10
 clear hB10
 have gi_b18 : Fp b18 ∨ w.heap.size ≤ b18 := .inr g_b18
 refine Zm ?_
 refine Zt ?_
 refine Zt ?_
 refine Za ?_
 refine Za ?_
 refine Znn ?_
 refine Zsr ?_
 refine Zm ?_
 refine Za ?_
 refine Znn ?_
 refine Zrt ?_
 refine Zre rfl [_] ⟨rfl, trivial⟩ ?_
 replace hA := hA.only hN22 (fun g hg => (fun h => h.elim ((ne1P ap_FpA_b) g hg) ((fun g h1 h2 => (symP ap2_FpL_FpA) g h1 h2) g hg)))
 replace hF := hF.locS hN22 (fun i => (fun h => h.elim (fun e => by rw [e]; exact (.inl ((hP.foot b).2 (.inl rfl)))) (fun h => gA_FpL i h)))
 exact ⟨_, rfl, A14, cap15, rfl, O16, gN_A14, (fun k => k = b ∨ Fp11 k ∨ FpA k ∨ (fun k => k = b18) k), ⟨lb, Fp11, _, _, FpA, (fun k => k = b18), hB, H12, hA, ⟨b18, rfl, B19, fun _ => Iff.rfl⟩, ⟨ap_Fp11_b, ap_FpA_b, (fun e => (show ¬ b = b18 from ne_b_b18) e), ap2_Fp11_FpA, (fun k hk e => ap_Fp11_b18 (e ▸ hk)), (fun k hk e => ap_FpA_b18 (e ▸ hk)), fun _ => Iff.rfl⟩⟩, hF, (fun g hg => hg.elim (fun e => by rw [e]; exact .inl ((hP.foot b).2 (.inl rfl))) fun h => h.elim (gA_Fp11 g) fun h => h.elim (gA_FpA g) (fun e => by rw [e]; exact gi_b18))⟩
set_option maxRecDepth 100000 in
set_option maxHeartbeats 4000000 in
theorem evict_b {w : World} {Fp : Nat → Prop} {b : Nat} {id : Int} {n : Nat} {ways : Int} {L : List Ln} {ask : Option (Int × Bool)} {gx : Ln} (H : CacheAt w Fp b ⟨id, n, ways, L, ask, (some gx)⟩) (pick : Int) (h0 : ¬ L.length = 0) (hx : ¬ ((allL n L).getD (pickAt pick (allL n L).length) ln0).state = 1) : Calls Try.prog 25 #[.pointer (some ⟨b, 0, none⟩), .int .i64 pick] w (Ret fun v w' => v = .slice none 0 0 ∧ New w w') := by
 obtain ⟨lb, FpL, pa, pg, FpA, FpG, hB, hL, hA, hG, hP⟩ := H
 dsimp only at hB hL hA hG
 have ap_FpL_b := hP.lb
 obtain ⟨hn1, hn2, hw1, hw2⟩ := hL.bd
 have gA_FpG := fun g (hg : FpG g) => (Or.inl trivial : True ∨ w.heap.size ≤ g)
 have hlm := len_most hL.bd hL.fits
 have hal := allL_len hL.bd.1 L
 have hF := Only.refl (fun _ => False) w
 refine Zen 32 Try.func25 ?_
 refine Zsr ?_
 refine Za ?_
 refine Znn ?_
 refine Zsq ?_
 obtain ⟨bg, rfl, hGB, hGF⟩ := hG
 have gi_bg := gA_FpG bg ((hGF bg).2 rfl)
 refine Zrg ?_
 refine Zm ?_
 refine Zk (args := #[.pointer (some ⟨b, 0, none⟩)]) cf30 (clines_c hB hL ap_FpL_b (by omega)) ?_
 rintro v w5 ⟨A1, cap2, rfl, O3, hA4, hN6⟩
 refine Za ?_
 refine Znn ?_
 refine Zsq ?_
 refine Zsq ?_
 have hlz : ¬ ((((allL n L).length) : Nat) : Int) = 0 := by omega
 refine Zrg ?_
 refine Zm ?_
 refine Zv _ (fun _ fr => x_len Try.underlying40 rfl (fr.ev rfl)) ?_
 refine Zv (.bool false) (fun _ fr => x_eql rfl (fr.ev rfl) rfl (decide_eq_false hlz)) ?_
 refine Znn ?_
 refine Zcf ?_
 refine Zsk ?_
 refine Znx ?_
 refine Zsq ?_
 have hps : 0 < (allL n L).length := by omega
 have htb := tmod_bd pick ((allL n L).length) hps
 have hpk := pickAt_lt pick ((allL n L).length) hps
 refine Zrg ?_
 refine Zm ?_
 refine Zm ?_
 refine Zm ?_
 refine Zm ?_
 refine Zv _ (fun _ fr => x_len Try.underlying40 rfl (fr.ev rfl)) ?_
 refine Zv (.int .i64 (Int.tmod pick (((allL n L).length : Nat) : Int))) (fun _ fr => x_rem rfl (fr.ev rfl) (fr.ev rfl) (by omega) rfl) ?_
 refine Zm ?_
 refine Zv _ (fun _ fr => x_len Try.underlying40 rfl (fr.ev rfl)) ?_
 refine Zv _ (fun _ fr => x_add rfl (fr.ev rfl) (fr.ev rfl) (i64w (r := Int.tmod pick (((allL n L).length : Nat) : Int) + (((allL n L).length : Nat) : Int)) (by omega) (by omega))) ?_
 refine Zm ?_
 refine Zv _ (fun _ fr => x_len Try.underlying40 rfl (fr.ev rfl)) ?_
 refine Zv (.int .i64 ((pickAt pick ((allL n L).length) : Nat) : Int)) (fun _ fr => x_rem rfl (fr.ev rfl) (fr.ev rfl) (by omega) (pickAt_eq pick ((allL n L).length) (by omega))) ?_
 obtain ⟨g7, o8, hA9⟩ := (O3.view).some_ (by omega)
 refine Zv (.pointer (some ⟨g7, o8 + (pickAt pick ((allL n L).length)) * 18, none⟩)) (fun _ fr => x_indexV Try.underlying40 sz39 rfl (fr.ev rfl) hA9 (fr.ev rfl) (by omega) rfl) ?_
 refine ZE lnE ag39 ((O3.view).elem hA9 (pickAt pick ((allL n L).length)) ln0 (by omega)) ?_
 replace hB := hB.new hN6
 replace hL := hL.new hN6
 refine Zk cf46 (out_b hB hL ap_FpL_b ((allL n L).getD (pickAt pick ((allL n L).length)) ln0) hx) ?_
 rintro v w10 ⟨rfl, hN11⟩
 refine Zm ?_
 refine Zt ?_
 refine Zt ?_
 refine Za ?_
 refine Za ?_
 refine Znn ?_
 refine Zsr ?_
 refine Zm ?_
 refine Za ?_
 refine Znn ?_
 refine Zrt ?_
 refine Zre rfl [_] ⟨rfl, trivial⟩ ?_
 replace hF := (hF.trNew hN6).trNew hN11
 exact ⟨_, rfl, rfl, hF⟩
end Go.Proofs.Ytflnlmibkbojcaa
namespace Go.Proofs.Ytflnlmibkbojcaa
open Go.RowKit
set_option maxRecDepth 100000 in
set_option maxHeartbeats 4000000 in
theorem ccopy_nn {w : World} {Fp : Nat → Prop} {b : Nat} {id : Int} {n : Nat} {ways : Int} {L : List Ln} (H : CacheAt w Fp b ⟨id, n, ways, L, none, none⟩)  : Calls Try.prog 29 #[.pointer (some ⟨b, 0, none⟩)] w (Ret fun v w' => ∃ b' Fp', v = .pointer (some ⟨b', 0, none⟩) ∧ CacheAt w' Fp' b' ⟨id, n, ways, L, none, none⟩ ∧ (∀ g, Fp' g → w.heap.size ≤ g) ∧ New w w') := by
 obtain ⟨lb, FpL, pa, pg, FpA, FpG, hB, hL, hA, hG, hP⟩ := H
 dsimp only at hB hL hA hG
 obtain ⟨hn1, hn2, hw1, hw2⟩ := hL.bd
 have hF := Only.refl (fun _ => False) w
 refine Zen 48 Try.func29 ?_
 refine Zsr ?_
 refine Za ?_
 refine Znn ?_
 refine Zsq ?_
 refine Zsq ?_
 obtain ⟨rfl, hA0⟩ := hA
 obtain ⟨rfl, hG0⟩ := hG
 refine Zrg ?_
 refine Zm ?_
 refine Zk cf43 (cnone_c hB) ?_
 rintro v w9 ⟨rfl, hw9⟩
 obtain rfl := hw9.symm
 refine Znn ?_
 refine Zcf ?_
 refine Zsk ?_
 refine Znx ?_
 refine Zsq ?_
 refine ZhT (n := 11) 11 (fun w => Blk w b 83 #[.int .i64 id, .pointer (some ⟨lb, 0, none⟩), .pointer none, .pointer none] ∧ True) ?_
 intro w3 hN4
 replace hB := hB.new hN4
 have hS9 := And.intro hB trivial
 refine Zhm 0 hS9 ?_
 refine Zhc 1 hS9 ?_
 refine Zhf 2 fo83_0 hS9 ?_
 refine Zhl (v := .int .i64 id) 3 pl3 hS9 (fun _ ⟨hB, _⟩ => (hB.cell 0 rfl)) ?_
 refine Zhm 4 hS9 ?_
 refine Zhc 5 hS9 ?_
 refine Zhf 6 fo83_1 hS9 ?_
 refine Zhl 7 pl79 hS9 (fun _ ⟨hB, _⟩ => (hB.cell 1 rfl)) ?_
 refine Zh1 8 ?_
 replace hL := hL.new hN4
 refine Zk cf67 (copy_c hL) ?_
 rintro v w9 ⟨b5, Fp6, rfl, H7, hb8, hN10⟩
 replace hF := hF.trNew hN4
 have gA_Fp6 := gA_newP hF hb8
 replace hB := hB.new hN10
 refine Zhb ⟨hB, trivial⟩ ?_
 have hS9 := And.intro hB trivial
 refine Zht 9 rfl (.agg (#[.int .i64 id, .pointer (some ⟨b5, 0, none⟩), .pointer none, .pointer none])) hS9 (fun a fr _ _ => x_build (cells := #[.int .i64 id, .pointer (some ⟨b5, 0, none⟩), .pointer none, .pointer none]) rfl (by simp only [List.map_toArray, List.map_cons, List.map_nil, show a.eval (.tmp 11) = .int .i64 id from fr.ev rfl, show a.eval (.tmp 16) = .pointer (some ⟨b5, 0, none⟩) from fr.ev rfl]; kernel_rfl)) ?_
 refine Zh1 10 ?_
 refine Znb (cs := #[.int .i64 id, .pointer (some ⟨b5, 0, none⟩), .pointer none, .pointer none]) fun b11 w12 hN13 B14 hb15 => ?_
 have ap_Fp6_b11 : ¬ Fp6 b11 := H7.apart hb15
 replace hF := hF.trNew hN10
 have g_b11 := Nat.le_trans hF.size hb15
 replace hB := hB.new hN13
 refine Zhb ⟨hB, trivial⟩ ?_
 refine Zhn ?_
 refine Ztl ?_
 refine Za ?_
 refine Znn ?_
 refine Zsq ?_
 refine Zsr ?_
 refine Zm ?_
 refine Zn ?_
 refine Zf fo83_2 ?_
 refine Zd pl80 (hB.cell 2 rfl) ?_
 refine Zv (.bool false) (fun _ fr => x_pneq Try.underlying80 rfl (fr.ev rfl) rfl rfl) ?_
 refine Znn ?_
 refine Zcf ?_
 refine Zsk ?_
 refine Znx ?_
 refine Zsq ?_
 refine Zsr ?_
 refine Zm ?_
 refine Zn ?_
 refine Zf fo83_3 ?_
 refine Zd pl81 (hB.cell 3 rfl) ?_
 refine Zv (.bool false) (fun _ fr => x_pneq Try.underlying81 rfl (fr.ev rfl) rfl rfl) ?_
 refine Znn ?_
 refine Zcf ?_
 refine Zsk ?_
 refine Znx ?_
 refine Zsr ?_
 refine Zm ?_
 refine Za ?_
 refine Znn ?_
 refine Zrt ?_
 refine Zre rfl [_] ⟨rfl, trivial⟩ ?_
 replace H7 := H7.new hN13
 replace hF := hF.trNew hN13
 exact ⟨_, rfl, b11, (fun k => k = b11 ∨ Fp6 k ∨ (fun _ => False) k ∨ (fun _ => False) k), rfl, ⟨b5, Fp6, _, _, (fun _ => False), (fun _ => False), B14, H7, ⟨rfl, fun _ h => h⟩, ⟨rfl, fun _ h => h⟩, ⟨ap_Fp6_b11, (fun h => h), (fun h => h), (fun _ _ h => h), (fun _ _ h => h), (fun _ h _ => h), fun _ => Iff.rfl⟩⟩, (fun g hg => hg.elim (fun e => by rw [e]; exact g_b11) fun h => h.elim (fun h => (gA_Fp6 g h).resolve_left (fun h => h)) fun h => h.elim (fun h => h.elim) (fun h => h.elim)), hF⟩
set_option maxRecDepth 100000 in
set_option maxHeartbeats 4000000 in
theorem ccopy_ng {w : World} {Fp : Nat → Prop} {b : Nat} {id : Int} {n : Nat} {ways : Int} {L : List Ln} {gx : Ln} (H : CacheAt w Fp b ⟨id, n, ways, L, none, (some gx)⟩)  : Calls Try.prog 29 #[.pointer (some ⟨b, 0, none⟩)] w (Ret fun v w' => ∃ b' Fp', v = .pointer (some ⟨b', 0, none⟩) ∧ CacheAt w' Fp' b' ⟨id, n, ways, L, none, (some gx)⟩ ∧ (∀ g, Fp' g → w.heap.size ≤ g) ∧ New w w') := by
 obtain ⟨lb, FpL, pa, pg, FpA, FpG, hB, hL, hA, hG, hP⟩ := H
 dsimp only at hB hL hA hG
 obtain ⟨hn1, hn2, hw1, hw2⟩ := hL.bd
 have gA_FpG := fun g (hg : FpG g) => (Or.inl trivial : True ∨ w.heap.size ≤ g)
 have hF := Only.refl (fun _ => False) w
 refine Zen 48 Try.func29 ?_
 refine Zsr ?_
 refine Za ?_
 refine Znn ?_
 refine Zsq ?_
 refine Zsq ?_
 obtain ⟨rfl, hA0⟩ := hA
 obtain ⟨bg, rfl, hGB, hGF⟩ := hG
 have gi_bg := gA_FpG bg ((hGF bg).2 rfl)
 refine Zrg ?_
 refine Zm ?_
 refine Zk cf43 (cnone_c hB) ?_
 rintro v w9 ⟨rfl, hw9⟩
 obtain rfl := hw9.symm
 refine Znn ?_
 refine Zcf ?_
 refine Zsk ?_
 refine Znx ?_
 refine Zsq ?_
 refine ZhT (n := 11) 11 (fun w => Blk w b 83 #[.int .i64 id, .pointer (some ⟨lb, 0, none⟩), .pointer none, .pointer (some ⟨bg, 0, none⟩)] ∧ True) ?_
 intro w3 hN4
 replace hB := hB.new hN4
 have hS9 := And.intro hB trivial
 refine Zhm 0 hS9 ?_
 refine Zhc 1 hS9 ?_
 refine Zhf 2 fo83_0 hS9 ?_
 refine Zhl (v := .int .i64 id) 3 pl3 hS9 (fun _ ⟨hB, _⟩ => (hB.cell 0 rfl)) ?_
 refine Zhm 4 hS9 ?_
 refine Zhc 5 hS9 ?_
 refine Zhf 6 fo83_1 hS9 ?_
 refine Zhl 7 pl79 hS9 (fun _ ⟨hB, _⟩ => (hB.cell 1 rfl)) ?_
 refine Zh1 8 ?_
 replace hL := hL.new hN4
 refine Zk cf67 (copy_c hL) ?_
 rintro v w9 ⟨b5, Fp6, rfl, H7, hb8, hN10⟩
 replace hF := hF.trNew hN4
 have gA_Fp6 := gA_newP hF hb8
 replace hB := hB.new hN10
 refine Zhb ⟨hB, trivial⟩ ?_
 have hS9 := And.intro hB trivial
 refine Zht 9 rfl (.agg (#[.int .i64 id, .pointer (some ⟨b5, 0, none⟩), .pointer none, .pointer none])) hS9 (fun a fr _ _ => x_build (cells := #[.int .i64 id, .pointer (some ⟨b5, 0, none⟩), .pointer none, .pointer none]) rfl (by simp only [List.map_toArray, List.map_cons, List.map_nil, show a.eval (.tmp 11) = .int .i64 id from fr.ev rfl, show a.eval (.tmp 16) = .pointer (some ⟨b5, 0, none⟩) from fr.ev rfl]; kernel_rfl)) ?_
 refine Zh1 10 ?_
 refine Znb (cs := #[.int .i64 id, .pointer (some ⟨b5, 0, none⟩), .pointer none, .pointer none]) fun b11 w12 hN13 B14 hb15 => ?_
 have ap_Fp6_b11 : ¬ Fp6 b11 := H7.apart hb15
 replace hF := hF.trNew hN10
 have g_b11 := Nat.le_trans hF.size hb15
 replace hB := hB.new hN13
 refine Zhb ⟨hB, trivial⟩ ?_
 refine Zhn ?_
 refine Ztl ?_
 refine Za ?_
 refine Znn ?_
 refine Zsq ?_
 refine Zsr ?_
 refine Zm ?_
 refine Zn ?_
 refine Zf fo83_2 ?_
 refine Zd pl80 (hB.cell 2 rfl) ?_
 refine Zv (.bool false) (fun _ fr => x_pneq Try.underlying80 rfl (fr.ev rfl) rfl rfl) ?_
 refine Znn ?_
 refine Zcf ?_
 refine Zsk ?_
 refine Znx ?_
 refine Zsq ?_
 refine Zsr ?_
 refine Zm ?_
 refine Zn ?_
 refine Zf fo83_3 ?_
 refine Zd pl81 (hB.cell 3 rfl) ?_
 refine Zv (.bool true) (fun _ fr => x_pneq Try.underlying81 rfl (fr.ev rfl) rfl rfl) ?_
 refine Znn ?_
 refine Zct ?_
 refine Zsr ?_
 refine Zm ?_
 refine Zn ?_
 refine Zf fo83_3 ?_
 refine Zd pl81 (hB.cell 3 rfl) ?_
 refine Zn ?_
 replace hGB := ((hGB.new hN4).new hN10).new hN13
 refine ZE lnE ag39 (hGB.rangeE lnE) ?_
 refine Zna (z := zv1) (cs := lnE.arr ln0) (by kernel_rfl) fun b16 w17 hN18 B19 hb20 => ?_
 replace H7 := H7.new hN13
 have ap_Fp6_b16 : ¬ Fp6 b16 := H7.apart hb20
 have ne_b11_b16 : NE b11 b16 := NE.mk (Nat.lt_of_lt_of_le B14.lt hb20)
 replace hF := hF.trNew hN13
 have g_b16 := Nat.le_trans hF.size hb20
 refine ZsS sz39 (lnE.all _) B19 (lnE.size _) (lnE.size _) fun w21 hO22 hBq => ?_
 replace B19 := hBq
 clear hBq
 refine Znn ?_
 refine Zrg ?_
 refine Zm ?_
 refine Zn ?_
 refine Zf fo83_3 ?_
 replace B14 := (B14.new hN18).only hO22 ne_b11_b16
 refine Zs1 (cs' := #[.int .i64 id, .pointer (some ⟨b5, 0, none⟩), .pointer none, .pointer (some ⟨b16, 0, none⟩)]) sz81 B14 (show 3 < 4 by decide) rfl fun w23 hO24 hBq => ?_
 replace B14 := hBq
 clear hBq
 refine Znn ?_
 refine Zsr ?_
 refine Zm ?_
 refine Za ?_
 refine Znn ?_
 refine Zrt ?_
 refine Zre rfl [_] ⟨rfl, trivial⟩ ?_
 replace H7 := ((H7.new hN18).only hO22 (ne1P ap_Fp6_b16)).only hO24 (ne1P ap_Fp6_b11)
 replace hF := ((hF.trNew hN18).loc hO22 (.inr g_b16)).loc hO24 (.inr g_b11)
 replace B19 := B19.only hO24 ne_b11_b16.symm
 exact ⟨_, rfl, b11, (fun k => k = b11 ∨ Fp6 k ∨ (fun _ => False) k ∨ (fun k => k = b16) k), rfl, ⟨b5, Fp6, _, _, (fun _ => False), (fun k => k = b16), B14, H7, ⟨rfl, fun _ h => h⟩, ⟨b16, rfl, B19, fun _ => Iff.rfl⟩, ⟨ap_Fp6_b11, (fun h => h), (fun e => (show ¬ b11 = b16 from ne_b11_b16) e), (fun _ _ h => h), (fun k hk e => ap_Fp6_b16 (e ▸ hk)), (fun _ h _ => h), fun _ => Iff.rfl⟩⟩, (fun g hg => hg.elim (fun e => by rw [e]; exact g_b11) fun h => h.elim (fun h => (gA_Fp6 g h).resolve_left (fun h => h)) fun h => h.elim (fun h => h.elim) (fun e => by rw [e]; exact g_b16)), hF⟩
def zv4 : Value := .agg (#[.int .u32 0, .bool false])
set_option maxRecDepth 100000 in
set_option maxHeartbeats 4000000 in
theorem ccopy_an {w : World} {Fp : Nat → Prop} {b : Nat} {id : Int} {n : Nat} {ways : Int} {L : List Ln} {al : Int} {aw : Bool} (H : CacheAt w Fp b ⟨id, n, ways, L, (some (al, aw)), none⟩)  : Calls Try.prog 29 #[.pointer (some ⟨b, 0, none⟩)] w (Ret fun v w' => ∃ b' Fp', v = .pointer (some ⟨b', 0, none⟩) ∧ CacheAt w' Fp' b' ⟨id, n, ways, L, (some (al, aw)), none⟩ ∧ (∀ g, Fp' g → w.heap.size ≤ g) ∧ New w w') := by
 obtain ⟨lb, FpL, pa, pg, FpA, FpG, hB, hL, hA, hG, hP⟩ := H
 dsimp only at hB hL hA hG
 obtain ⟨hn1, hn2, hw1, hw2⟩ := hL.bd
 have gA_FpA := fun g (hg : FpA g) => (Or.inl trivial : True ∨ w.heap.size ≤ g)
 have hF := Only.refl (fun _ => False) w
 refine Zen 48 Try.func29 ?_
 refine Zsr ?_
 refine Za ?_
 refine Znn ?_
 refine Zsq ?_
 refine Zsq ?_
 obtain ⟨ba, rfl, hAB, hAF, hal⟩ := hA
 have gi_ba := gA_FpA ba ((hAF ba).2 rfl)
 obtain ⟨rfl, hG0⟩ := hG
 refine Zrg ?_
 refine Zm ?_
 refine Zk cf43 (cnone_c hB) ?_
 rintro v w9 ⟨rfl, hw9⟩
 obtain rfl := hw9.symm
 refine Znn ?_
 refine Zcf ?_
 refine Zsk ?_
 refine Znx ?_
 refine Zsq ?_
 refine ZhT (n := 11) 11 (fun w => Blk w b 83 #[.int .i64 id, .pointer (some ⟨lb, 0, none⟩), .pointer (some ⟨ba, 0, none⟩), .pointer none] ∧ True) ?_
 intro w3 hN4
 replace hB := hB.new hN4
 have hS9 := And.intro hB trivial
 refine Zhm 0 hS9 ?_
 refine Zhc 1 hS9 ?_
 refine Zhf 2 fo83_0 hS9 ?_
 refine Zhl (v := .int .i64 id) 3 pl3 hS9 (fun _ ⟨hB, _⟩ => (hB.cell 0 rfl)) ?_
 refine Zhm 4 hS9 ?_
 refine Zhc 5 hS9 ?_
 refine Zhf 6 fo83_1 hS9 ?_
 refine Zhl 7 pl79 hS9 (fun _ ⟨hB, _⟩ => (hB.cell 1 rfl)) ?_
 refine Zh1 8 ?_
 replace hL := hL.new hN4
 refine Zk cf67 (copy_c hL) ?_
 rintro v w9 ⟨b5, Fp6, rfl, H7, hb8, hN10⟩
 replace hF := hF.trNew hN4
 have gA_Fp6 := gA_newP hF hb8
 replace hB := hB.new hN10
 refine Zhb ⟨hB, trivial⟩ ?_
 have hS9 := And.intro hB trivial
 refine Zht 9 rfl (.agg (#[.int .i64 id, .pointer (some ⟨b5, 0, none⟩), .pointer none, .pointer none])) hS9 (fun a fr _ _ => x_build (cells := #[.int .i64 id, .pointer (some ⟨b5, 0, none⟩), .pointer none, .pointer none]) rfl (by simp only [List.map_toArray, List.map_cons, List.map_nil, show a.eval (.tmp 11) = .int .i64 id from fr.ev rfl, show a.eval (.tmp 16) = .pointer (some ⟨b5, 0, none⟩) from fr.ev rfl]; kernel_rfl)) ?_
 refine Zh1 10 ?_
 refine Znb (cs := #[.int .i64 id, .pointer (some ⟨b5, 0, none⟩), .pointer none, .pointer none]) fun b11 w12 hN13 B14 hb15 => ?_
 have ne_b_b11 : NE b b11 := NE.mk (Nat.lt_of_lt_of_le hB.lt hb15)
 have ap_Fp6_b11 : ¬ Fp6 b11 := H7.apart hb15
 replace hF := hF.trNew hN10
 have g_b11 := Nat.le_trans hF.size hb15
 replace hB := hB.new hN13
 refine Zhb ⟨hB, trivial⟩ ?_
 refine Zhn ?_
 refine Ztl ?_
 refine Za ?_
 refine Znn ?_
 refine Zsq ?_
 refine Zsr ?_
 refine Zm ?_
 refine Zn ?_
 refine Zf fo83_2 ?_
 refine Zd pl80 (hB.cell 2 rfl) ?_
 refine Zv (.bool true) (fun _ fr => x_pneq Try.underlying80 rfl (fr.ev rfl) rfl rfl) ?_
 refine Znn ?_
 refine Zct ?_
 refine Zsr ?_
 refine Zm ?_
 refine Zn ?_
 refine Zf fo83_2 ?_
 refine Zd pl80 (hB.cell 2 rfl) ?_
 refine Zn ?_
 replace hAB := ((hAB.new hN4).new hN10).new hN13
 refine Zv _ (fun _ fr => x_loadS ag109 rfl (fr.ev rfl) rfl hAB.range) ?_
 refine Zna (z := zv4) (cs := #[.int .u32 0, .bool false]) (by kernel_rfl) fun b16 w17 hN18 B19 hb20 => ?_
 have ne_b_b16 : NE b b16 := NE.mk (Nat.lt_of_lt_of_le hB.lt hb20)
 replace H7 := H7.new hN13
 have ap_Fp6_b16 : ¬ Fp6 b16 := H7.apart hb20
 have ne_b11_b16 : NE b11 b16 := NE.mk (Nat.lt_of_lt_of_le B14.lt hb20)
 replace hF := hF.trNew hN13
 have g_b16 := Nat.le_trans hF.size hb20
 refine ZsS sz109 (by simp [Value.oneCell']) B19 rfl rfl (ho := rfl) (hy := rfl) fun w21 hO22 hBq => ?_
 replace B19 := hBq
 clear hBq
 refine Znn ?_
 refine Zrg ?_
 refine Zm ?_
 refine Zn ?_
 refine Zf fo83_2 ?_
 replace B14 := (B14.new hN18).only hO22 ne_b11_b16
 refine Zs1 (cs' := #[.int .i64 id, .pointer (some ⟨b5, 0, none⟩), .pointer (some ⟨b16, 0, none⟩), .pointer none]) sz80 B14 (show 2 < 4 by decide) rfl fun w23 hO24 hBq => ?_
 replace B14 := hBq
 clear hBq
 refine Znn ?_
 refine Zsq ?_
 refine Zsr ?_
 refine Zm ?_
 refine Zn ?_
 refine Zf fo83_3 ?_
 replace hB := ((hB.new hN18).only hO22 ne_b_b16).only hO24 ne_b_b11
 refine Zd pl81 (hB.cell 3 rfl) ?_
 refine Zv (.bool false) (fun _ fr => x_pneq Try.underlying81 rfl (fr.ev rfl) rfl rfl) ?_
 refine Znn ?_
 refine Zcf ?_
 refine Zsk ?_
 refine Znx ?_
 refine Zsr ?_
 refine Zm ?_
 refine Za ?_
 refine Znn ?_
 refine Zrt ?_
 refine Zre rfl [_] ⟨rfl, trivial⟩ ?_
 replace H7 := ((H7.new hN18).only hO22 (ne1P ap_Fp6_b16)).only hO24 (ne1P ap_Fp6_b11)
 replace hF := ((hF.trNew hN18).loc hO22 (.inr g_b16)).loc hO24 (.inr g_b11)
 replace B19 := B19.only hO24 ne_b11_b16.symm
 exact ⟨_, rfl, b11, (fun k => k = b11 ∨ Fp6 k ∨ (fun k => k = b16) k ∨ (fun _ => False) k), rfl, ⟨b5, Fp6, _, _, (fun k => k = b16), (fun _ => False), B14, H7, ⟨b16, rfl, B19, fun _ => Iff.rfl, hal⟩, ⟨rfl, fun _ h => h⟩, ⟨ap_Fp6_b11, (fun e => (show ¬ b11 = b16 from ne_b11_b16) e), (fun h => h), (fun k hk e => ap_Fp6_b16 (e ▸ hk)), (fun _ _ h => h), (fun _ _ h => h), fun _ => Iff.rfl⟩⟩, (fun g hg => hg.elim (fun e => by rw [e]; exact g_b11) fun h => h.elim (fun h => (gA_Fp6 g h).resolve_left (fun h => h)) fun h => h.elim (fun e => by rw [e]; exact g_b16) (fun h => h.elim)), hF⟩
set_option maxRecDepth 100000 in
set_option maxHeartbeats 4000000 in
theorem ccopy_ag {w : World} {Fp : Nat → Prop} {b : Nat} {id : Int} {n : Nat} {ways : Int} {L : List Ln} {al : Int} {aw : Bool} {gx : Ln} (H : CacheAt w Fp b ⟨id, n, ways, L, (some (al, aw)), (some gx)⟩)  : Calls Try.prog 29 #[.pointer (some ⟨b, 0, none⟩)] w (Ret fun v w' => ∃ b' Fp', v = .pointer (some ⟨b', 0, none⟩) ∧ CacheAt w' Fp' b' ⟨id, n, ways, L, (some (al, aw)), (some gx)⟩ ∧ (∀ g, Fp' g → w.heap.size ≤ g) ∧ New w w') := by
 obtain ⟨lb, FpL, pa, pg, FpA, FpG, hB, hL, hA, hG, hP⟩ := H
 dsimp only at hB hL hA hG
 obtain ⟨hn1, hn2, hw1, hw2⟩ := hL.bd
 have gA_FpA := fun g (hg : FpA g) => (Or.inl trivial : True ∨ w.heap.size ≤ g)
 have gA_FpG := fun g (hg : FpG g) => (Or.inl trivial : True ∨ w.heap.size ≤ g)
 have hF := Only.refl (fun _ => False) w
 refine Zen 48 Try.func29 ?_
 refine Zsr ?_
 refine Za ?_
 refine Znn ?_
 refine Zsq ?_
 refine Zsq ?_
 obtain ⟨ba, rfl, hAB, hAF, hal⟩ := hA
 have gi_ba := gA_FpA ba ((hAF ba).2 rfl)
 obtain ⟨bg, rfl, hGB, hGF⟩ := hG
 have gi_bg := gA_FpG bg ((hGF bg).2 rfl)
 refine Zrg ?_
 refine Zm ?_
 refine Zk cf43 (cnone_c hB) ?_
 rintro v w9 ⟨rfl, hw9⟩
 obtain rfl := hw9.symm
 refine Znn ?_
 refine Zcf ?_
 refine Zsk ?_
 refine Znx ?_
 refine Zsq ?_
 refine ZhT (n := 11) 11 (fun w => Blk w b 83 #[.int .i64 id, .pointer (some ⟨lb, 0, none⟩), .pointer (some ⟨ba, 0, none⟩), .pointer (some ⟨bg, 0, none⟩)] ∧ True) ?_
 intro w3 hN4
 replace hB := hB.new hN4
 have hS9 := And.intro hB trivial
 refine Zhm 0 hS9 ?_
 refine Zhc 1 hS9 ?_
 refine Zhf 2 fo83_0 hS9 ?_
 refine Zhl (v := .int .i64 id) 3 pl3 hS9 (fun _ ⟨hB, _⟩ => (hB.cell 0 rfl)) ?_
 refine Zhm 4 hS9 ?_
 refine Zhc 5 hS9 ?_
 refine Zhf 6 fo83_1 hS9 ?_
 refine Zhl 7 pl79 hS9 (fun _ ⟨hB, _⟩ => (hB.cell 1 rfl)) ?_
 refine Zh1 8 ?_
 replace hL := hL.new hN4
 refine Zk cf67 (copy_c hL) ?_
 rintro v w9 ⟨b5, Fp6, rfl, H7, hb8, hN10⟩
 replace hF := hF.trNew hN4
 have gA_Fp6 := gA_newP hF hb8
 replace hB := hB.new hN10
 refine Zhb ⟨hB, trivial⟩ ?_
 have hS9 := And.intro hB trivial
 refine Zht 9 rfl (.agg (#[.int .i64 id, .pointer (some ⟨b5, 0, none⟩), .pointer none, .pointer none])) hS9 (fun a fr _ _ => x_build (cells := #[.int .i64 id, .pointer (some ⟨b5, 0, none⟩), .pointer none, .pointer none]) rfl (by simp only [List.map_toArray, List.map_cons, List.map_nil, show a.eval (.tmp 11) = .int .i64 id from fr.ev rfl, show a.eval (.tmp 16) = .pointer (some ⟨b5, 0, none⟩) from fr.ev rfl]; kernel_rfl)) ?_
 refine Zh1 10 ?_
 refine Znb (cs := #[.int .i64 id, .pointer (some ⟨b5, 0, none⟩), .pointer none, .pointer none]) fun b11 w12 hN13 B14 hb15 => ?_
 have ne_b_b11 : NE b b11 := NE.mk (Nat.lt_of_lt_of_le hB.lt hb15)
 replace hGB := (hGB.new hN4).new hN10
 have ne_bg_b11 : NE bg b11 := NE.mk (Nat.lt_of_lt_of_le hGB.lt hb15)
 have ap_Fp6_b11 : ¬ Fp6 b11 := H7.apart hb15
 replace hF := hF.trNew hN10
 have g_b11 := Nat.le_trans hF.size hb15
 replace hB := hB.new hN13
 refine Zhb ⟨hB, trivial⟩ ?_
 refine Zhn ?_
 refine Ztl ?_
 refine Za ?_
 refine Znn ?_
 refine Zsq ?_
 refine Zsr ?_
 refine Zm ?_
 refine Zn ?_
 refine Zf fo83_2 ?_
 refine Zd pl80 (hB.cell 2 rfl) ?_
 refine Zv (.bool true) (fun _ fr => x_pneq Try.underlying80 rfl (fr.ev rfl) rfl rfl) ?_
 refine Znn ?_
 refine Zct ?_
 refine Zsr ?_
 refine Zm ?_
 refine Zn ?_
 refine Zf fo83_2 ?_
 refine Zd pl80 (hB.cell 2 rfl) ?_
 refine Zn ?_
 replace hAB := ((hAB.new hN4).new hN10).new hN13
 refine Zv _ (fun _ fr => x_loadS ag109 rfl (fr.ev rfl) rfl hAB.range) ?_
 refine Zna (z := zv4) (cs := #[.int .u32 0, .bool false]) (by kernel_rfl) fun b16 w17 hN18 B19 hb20 => ?_
 have ne_b_b16 : NE b b16 := NE.mk (Nat.lt_of_lt_of_le hB.lt hb20)
 replace hGB := hGB.new hN13
 have ne_bg_b16 : NE bg b16 := NE.mk (Nat.lt_of_lt_of_le hGB.lt hb20)
 replace H7 := H7.new hN13
 have ap_Fp6_b16 : ¬ Fp6 b16 := H7.apart hb20
 have ne_b11_b16 : NE b11 b16 := NE.mk (Nat.lt_of_lt_of_le B14.lt hb20)
 replace hF := hF.trNew hN13
 have g_b16 := Nat.le_trans hF.size hb20
 refine ZsS sz109 (by simp [Value.oneCell']) B19 rfl rfl (ho := rfl) (hy := rfl) fun w21 hO22 hBq => ?_
 replace B19 := hBq
 clear hBq
 refine Znn ?_
 refine Zrg ?_
 refine Zm ?_
 refine Zn ?_
 refine Zf fo83_2 ?_
 replace B14 := (B14.new hN18).only hO22 ne_b11_b16
 refine Zs1 (cs' := #[.int .i64 id, .pointer (some ⟨b5, 0, none⟩), .pointer (some ⟨b16, 0, none⟩), .pointer none]) sz80 B14 (show 2 < 4 by decide) rfl fun w23 hO24 hBq => ?_
 replace B14 := hBq
 clear hBq
 refine Znn ?_
 refine Zsq ?_
 refine Zsr ?_
 refine Zm ?_
 refine Zn ?_
 refine Zf fo83_3 ?_
 replace hB := ((hB.new hN18).only hO22 ne_b_b16).only hO24 ne_b_b11
 refine Zd pl81 (hB.cell 3 rfl) ?_
 refine Zv (.bool true) (fun _ fr => x_pneq Try.underlying81 rfl (fr.ev rfl) rfl rfl) ?_
 refine Znn ?_
 refine Zct ?_
 refine Zsr ?_
 refine Zm ?_
 refine Zn ?_
 refine Zf fo83_3 ?_
 refine Zd pl81 (hB.cell 3 rfl) ?_
 refine Zn ?_
 replace hGB := ((hGB.new hN18).only hO22 ne_bg_b16).only hO24 ne_bg_b11
 refine ZE lnE ag39 (hGB.rangeE lnE) ?_
 refine Zna (z := zv1) (cs := lnE.arr ln0) (by kernel_rfl) fun b25 w26 hN27 B28 hb29 => ?_
 replace H7 := ((H7.new hN18).only hO22 (ne1P ap_Fp6_b16)).only hO24 (ne1P ap_Fp6_b11)
 have ap_Fp6_b25 : ¬ Fp6 b25 := H7.apart hb29
 replace B19 := B19.only hO24 ne_b11_b16.symm
 have ne_b16_b25 : NE b16 b25 := NE.mk (Nat.lt_of_lt_of_le B19.lt hb29)
 have ne_b11_b25 : NE b11 b25 := NE.mk (Nat.lt_of_lt_of_le B14.lt hb29)
 replace hF := ((hF.trNew hN18).loc hO22 (.inr g_b16)).loc hO24 (.inr g_b11)
 have g_b25 := Nat.le_trans hF.size hb29
 refine ZsS sz39 (lnE.all _) B28 (lnE.size _) (lnE.size _) fun w30 hO31 hBq => ?_
 replace B28 := hBq
 clear hBq
 refine Znn ?_
 refine Zrg ?_
 refine Zm ?_
 refine Zn ?_
 refine Zf fo83_3 ?_
 replace B14 := (B14.new hN27).only hO31 ne_b11_b25
 refine Zs1 (cs' := #[.int .i64 id, .pointer (some ⟨b5, 0, none⟩), .pointer (some ⟨b16, 0, none⟩), .pointer (some ⟨b25, 0, none⟩)]) sz81 B14 (show 3 < 4 by decide) rfl fun w32 hO33 hBq => ?_
 replace B14 := hBq
 clear hBq
 refine Znn ?_
 refine Zsr ?_
 refine Zm ?_
 refine Za ?_
 refine Znn ?_
 refine Zrt ?_
 refine Zre rfl [_] ⟨rfl, trivial⟩ ?_
 replace H7 := ((H7.new hN27).only hO31 (ne1P ap_Fp6_b25)).only hO33 (ne1P ap_Fp6_b11)
 replace B19 := ((B19.new hN27).only hO31 ne_b16_b25).only hO33 ne_b11_b16.symm
 replace hF := ((hF.trNew hN27).loc hO31 (.inr g_b25)).loc hO33 (.inr g_b11)
 replace B28 := B28.only hO33 ne_b11_b25.symm
 exact ⟨_, rfl, b11, (fun k => k = b11 ∨ Fp6 k ∨ (fun k => k = b16) k ∨ (fun k => k = b25) k), rfl, ⟨b5, Fp6, _, _, (fun k => k = b16), (fun k => k = b25), B14, H7, ⟨b16, rfl, B19, fun _ => Iff.rfl, hal⟩, ⟨b25, rfl, B28, fun _ => Iff.rfl⟩, ⟨ap_Fp6_b11, (fun e => (show ¬ b11 = b16 from ne_b11_b16) e), (fun e => (show ¬ b11 = b25 from ne_b11_b25) e), (fun k hk e => ap_Fp6_b16 (e ▸ hk)), (fun k hk e => ap_Fp6_b25 (e ▸ hk)), (fun k e e2 => (show ¬ b16 = b25 from ne_b16_b25) (e.symm.trans e2)), fun _ => Iff.rfl⟩⟩, (fun g hg => hg.elim (fun e => by rw [e]; exact g_b11) fun h => h.elim (fun h => (gA_Fp6 g h).resolve_left (fun h => h)) fun h => h.elim (fun e => by rw [e]; exact g_b16) (fun e => by rw [e]; exact g_b25)), hF⟩
theorem ccopy_c {w : World} {Fp : Nat → Prop} {b : Nat} {id : Int} {n : Nat} {ways : Int} {L : List Ln} {ask : Option (Int × Bool)} {giv : Option Ln} (H : CacheAt w Fp b ⟨id, n, ways, L, ask, giv⟩) : Calls Try.prog 29 #[.pointer (some ⟨b, 0, none⟩)] w (Ret fun v w' => ∃ b' Fp', v = .pointer (some ⟨b', 0, none⟩) ∧ CacheAt w' Fp' b' ⟨id, n, ways, L, ask, giv⟩ ∧ (∀ g, Fp' g → w.heap.size ≤ g) ∧ New w w') := by
  rcases ask with _ | ⟨al, aw⟩ <;> rcases giv with _ | gx
  · exact ccopy_nn H
  · exact ccopy_ng H
  · exact ccopy_an H
  · exact ccopy_ag H
end Go.Proofs.Ytflnlmibkbojcaa
