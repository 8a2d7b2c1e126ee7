/-
  Part 3 of what the claim stands on: walks through the code, plain laws.
-/
import Derived.Test.YtflnlmibkbojcaaZNil2
namespace Go.Proofs.Ytflnlmibkbojcaa
open Go.RowKit
set_option maxRecDepth 100000 in
set_option maxHeartbeats 4000000 in
theorem clines_nil (w : World) : Calls Try.prog 30 #[.pointer none] w (Ret fun v w' => v = .slice none 0 0 ∧ New w w') := by
 have hF := Only.refl (fun _ => False) w
 refine Zen 11 Try.func30 ?_
 refine Zsr ?_
 refine Za ?_
 refine Znn ?_
 refine Zsq ?_
 refine Zsr ?_
 refine Zm ?_
 refine Zk cf43 (cnone_nil _) ?_
 rintro v w9 ⟨rfl, hw9⟩
 obtain rfl := hw9.symm
 refine Znn ?_
 refine Zct ?_
 refine Zsr ?_
 refine Za ?_
 refine Znn ?_
 refine Zrt ?_
 refine Zr1 ?_
 refine Zre rfl [_] ⟨rfl, trivial⟩ ?_
 exact ⟨_, rfl, rfl, hF⟩
set_option maxRecDepth 100000 in
set_option maxHeartbeats 4000000 in
theorem asked_nil (w : World) : Calls Try.prog 32 #[.pointer none] w (Ret fun v w' => v = .tuple #[.int .u32 0, .bool false, .bool false] ∧ New w w') := by
 have hF := Only.refl (fun _ => False) w
 refine Zen 28 Try.func32 ?_
 refine Zsr ?_
 refine Za ?_
 refine Za ?_
 refine Za ?_
 refine Znn ?_
 refine Zsq ?_
 refine Zsr ?_
 refine Zm ?_
 refine Zk cf43 (cnone_nil _) ?_
 rintro v w9 ⟨rfl, hw9⟩
 obtain rfl := hw9.symm
 refine Zm ?_
 refine Zs ?_
 refine Zs ?_
 refine Zs ?_
 refine Zs ?_
 refine Zs ?_
 refine Zpt ?_
 refine Znn ?_
 refine Zct ?_
 refine Zsr ?_
 refine Za ?_
 refine Za ?_
 refine Za ?_
 refine Znn ?_
 refine Zrt ?_
 refine Zr1 ?_
 refine Zre rfl [_, _, _] ⟨rfl, rfl, rfl, trivial⟩ ?_
 exact ⟨_, rfl, rfl, hF⟩
set_option maxRecDepth 100000 in
set_option maxHeartbeats 4000000 in
theorem given_z {w : World} {b : Nat} {i x y : Value} (hB : Blk w b 83 #[i, .pointer none, x, y])  : Calls Try.prog 33 #[.pointer (some ⟨b, 0, none⟩)] w (Ret fun v w' => v = .tuple #[.agg (lnE.arr ln0), .bool false] ∧ New w w') := by
 have hF := Only.refl (fun _ => False) w
 refine Zen 20 Try.func33 ?_
 refine Zsr ?_
 refine Zna (z := zv1) (cs := lnE.arr ln0) (by kernel_rfl) fun b1 w2 hN3 B4 hb5 => ?_
 have g_b1 := Nat.le_trans hF.size hb5
 refine Za ?_
 refine Znn ?_
 refine Zsq ?_
 refine Zsr ?_
 refine Zm ?_
 replace hB := hB.new hN3
 refine Zk cf43 (cnone_z hB) ?_
 rintro v w9 ⟨rfl, hw9⟩
 obtain rfl := hw9.symm
 refine Zm ?_
 refine Zs ?_
 refine Zs ?_
 refine Zs ?_
 refine Zs ?_
 refine Zs ?_
 refine Zpt ?_
 refine Znn ?_
 refine Zct ?_
 refine Zsr ?_
 refine Zv (.agg (lnE.arr ln0)) (fun _ _ => x_build (cells := lnE.arr ln0) rfl (by kernel_rfl)) ?_
 refine ZsS sz39 (lnE.all _) B4 (lnE.size _) (lnE.size _) fun w8 hO9 hBq => ?_
 replace B4 := hBq
 clear hBq
 refine Za ?_
 refine Znn ?_
 refine Zrt ?_
 refine Zr1 ?_
 refine Zre rfl [_, _] ⟨⟨_, rfl, loadV_E (E := lnE) ag39 rfl (B4.rangeE lnE)⟩, rfl, trivial⟩ ?_
 replace hF := (hF.trNew hN3).loc hO9 (.inr g_b1)
 exact ⟨_, rfl, rfl, hF⟩
set_option maxRecDepth 100000 in
set_option maxHeartbeats 4000000 in
theorem copy_nil2 (w : World) : Calls Try.prog 29 #[.pointer none] w (Ret fun v w' => v = .pointer none ∧ New w w') := by
 have hF := Only.refl (fun _ => False) w
 refine Zen 48 Try.func29 ?_
 refine Zsr ?_
 refine Za ?_
 refine Znn ?_
 refine Zsq ?_
 refine Zsr ?_
 refine Zm ?_
 refine Zk cf43 (cnone_nil _) ?_
 rintro v w9 ⟨rfl, hw9⟩
 obtain rfl := hw9.symm
 refine Znn ?_
 refine Zct ?_
 refine Zsr ?_
 refine Za ?_
 refine Znn ?_
 refine Zrt ?_
 refine Zr1 ?_
 refine Zre rfl [_] ⟨rfl, trivial⟩ ?_
 exact ⟨_, rfl, rfl, hF⟩
set_option maxRecDepth 100000 in
set_option maxHeartbeats 4000000 in
theorem take_z {w : World} {b : Nat} {i x y : Value} (hB : Blk w b 83 #[i, .pointer none, x, y]) (m : Msg) : Calls Try.prog 14 #[.pointer (some ⟨b, 0, none⟩), .agg (msgE.arr m)] w (Ret fun v w' => v = .tuple #[.slice none 0 0, .int .i64 1] ∧ New w w') := by
  have hF := Only.refl (fun _ => False) w
  refine fx_enterD Try.func14 rfl (N := (43, [])) (T := [(0, .pointer (some ⟨b, 0, none⟩)), (1, .agg (msgE.arr m))]) rfl (show 2 ≤ 43 by decide) ⟨rfl, rfl, trivial⟩ fun a fr => ?_
  refine wp_seq ?_
  refine wp_region_lit ?_  -- region 0
  refine fx_new fr rfl rfl (by first | decide | simp) (x_box (cs := msgE.arr m) rfl (fr.ev rfl) rfl) ?_
  clear fr a
  intro b1 w2 hN3 B4 hb5 a fr
  have ne_b_b1 : NE b b1 := NE.mk (Nat.lt_of_lt_of_le hB.lt hb5)
  have g_b1 := Nat.le_trans hF.size hb5
  replace hB := hB.new hN3
  replace hF := hF.trNew hN3
  refine fx_val (v := .slice none 0 0) fr rfl rfl (by first | decide | simp) (x_assign rfl rfl) ?_
  clear fr a; intro a fr
  refine fx_new fr rfl rfl (by first | decide | simp) (x_alloc (z := .int .i64 0) (cs := #[.int .i64 0]) rfl (by kernel_rfl) rfl) ?_
  clear fr a
  intro b6 w7 hN8 B9 hb10 a fr
  have ne_b_b6 : NE b b6 := NE.mk (Nat.lt_of_lt_of_le hB.lt hb10)
  have ne_b1_b6 : NE b1 b6 := NE.mk (Nat.lt_of_lt_of_le B4.lt hb10)
  have g_b6 := Nat.le_trans hF.size hb10
  replace hB := hB.new hN8
  replace B4 := B4.new hN8
  replace hF := hF.trNew hN8
  refine wpList_nil ?_
  refine fx_next ?_
  refine wp_seq ?_
  refine wp_block ?_
  refine wp_seq ?_
  refine wp_region_lit ?_  -- region 1
  refine fx_val (v := .pointer (some ⟨b, 0, none⟩)) fr rfl rfl (by first | decide | simp) (x_move rfl (fr.ev rfl)) ?_
  clear fr a; intro a fr
  refine fx_call fr rfl rfl (by first | decide | simp) (x_call (vs := [.pointer (some ⟨b, 0, none⟩)]) rfl rfl ⟨(fr.ev rfl), trivial⟩ Try.func43 nm43 rfl) (cnone_z hB) ?_
  clear fr a
  rintro v w9 ⟨rfl, hw9⟩ a fr
  obtain rfl := hw9.symm
  refine fx_val (v := .bool true) fr rfl rfl (by first | decide | simp) (x_assign rfl (fr.ev rfl)) ?_
  clear fr a; intro a fr
  refine wpList_nil ?_
  refine fx_next ?_
  refine fx_cond_t fr rfl ?_
  refine wp_seq ?_
  refine wp_region_lit ?_  -- region 2
  refine fx_val (v := .slice none 0 0) fr rfl rfl (by first | decide | simp) (x_assign rfl rfl) ?_
  clear fr a; intro a fr
  refine fx_store1 sz26 rfl rfl rfl (fr.ev rfl) rfl rfl B9 (show 0 < 1 by decide) (cs' := #[.int .i64 1]) rfl fun w13 hO14 hBq => ?_
  replace hB := hB.only hO14 (by first | exact ne_b_b6 | exact ne_b6_b.symm | (show ¬ b = b6; omega))
  replace B4 := B4.only hO14 (by first | exact ne_b1_b6 | exact ne_b6_b1.symm | (show ¬ b1 = b6; omega))
  replace hF := hF.loc hO14 (.inr g_b6)
  replace B9 := hBq
  clear hBq
  refine wpList_nil ?_
  refine fx_next ?_
  refine wp_ret ?_
  refine fx_rb ?_
  refine fx_rt ?_
  refine fx_retD0 fr [.tmp 4, .cell 5 26] [.slice none 0 0, .int .i64 1] rfl ⟨rfl, ⟨_, rfl, x_loadV1 pl26 (B9.cell 0 rfl)⟩, trivial⟩ rfl ?_
  exact ⟨_, rfl, rfl, hF⟩
set_option maxRecDepth 100000 in
set_option maxHeartbeats 4000000 in
theorem read_nil (addr width : Int) (w : World) : Calls Try.prog 17 #[.pointer none, .int .u32 addr, .int .i64 width] w (Ret fun v w' => v = .tuple #[.int .u32 0, .int .i64 1] ∧ New w w') := by
 have hF := Only.refl (fun _ => False) w
 refine Zen 55 Try.func17 ?_
 refine Zsr ?_
 refine Za ?_
 refine Za ?_
 refine Znn ?_
 refine Zsq ?_
 refine Zsr ?_
 refine Zm ?_
 refine Zk cf43 (cnone_nil _) ?_
 rintro v w9 ⟨rfl, hw9⟩
 obtain rfl := hw9.symm
 refine Znn ?_
 refine Zct ?_
 refine Zsr ?_
 refine Za ?_
 refine Za ?_
 refine Znn ?_
 refine Zrt ?_
 refine Zr1 ?_
 refine Zre rfl [_, _] ⟨rfl, rfl, trivial⟩ ?_
 exact ⟨_, rfl, rfl, hF⟩
set_option maxRecDepth 100000 in
set_option maxHeartbeats 4000000 in
theorem write_z {w : World} {b : Nat} {i x y : Value} (hB : Blk w b 83 #[i, .pointer none, x, y]) (addr width value : Int) : Calls Try.prog 15 #[.pointer (some ⟨b, 0, none⟩), .int .u32 addr, .int .i64 width, .int .u32 value] w (Ret fun v w' => v = .int .i64 1 ∧ New w w') := by
 have hF := Only.refl (fun _ => False) w
 refine Zen 61 Try.func15 ?_
 refine Zsr ?_
 refine Za ?_
 refine Znn ?_
 refine Zsq ?_
 refine Zsr ?_
 refine Zm ?_
 refine Zk cf43 (cnone_z hB) ?_
 rintro v w9 ⟨rfl, hw9⟩
 obtain rfl := hw9.symm
 refine Znn ?_
 refine Zct ?_
 refine Zsr ?_
 refine Za ?_
 refine Znn ?_
 refine Zrt ?_
 refine Zr1 ?_
 refine Zre rfl [_] ⟨rfl, trivial⟩ ?_
 exact ⟨_, rfl, rfl, hF⟩
set_option maxRecDepth 100000 in
set_option maxHeartbeats 4000000 in
theorem evict_nil (pick : Int) (w : World) : Calls Try.prog 25 #[.pointer none, .int .i64 pick] w (Ret fun v w' => v = .slice none 0 0 ∧ New w w') := by
 have hF := Only.refl (fun _ => False) w
 refine Zen 32 Try.func25 ?_
 refine Zsr ?_
 refine Za ?_
 refine Znn ?_
 refine Zsr ?_
 refine Zm ?_
 refine Zk cf30 (clines_nil _) ?_
 rintro v w1 ⟨rfl, hN2⟩
 refine Za ?_
 refine Znn ?_
 refine Zsq ?_
 refine Zsr ?_
 refine Zm ?_
 refine Zv _ (fun _ fr => x_len Try.underlying40 rfl (fr.ev rfl)) ?_
 refine Zv (.bool true) (fun _ fr => x_eql rfl (fr.ev rfl) rfl rfl) ?_
 refine Znn ?_
 refine Zct ?_
 refine Zsr ?_
 refine Za ?_
 refine Znn ?_
 refine Zrt ?_
 refine Zr1 ?_
 refine Zre rfl [_] ⟨rfl, trivial⟩ ?_
 replace hF := hF.trNew hN2
 exact ⟨_, rfl, rfl, hF⟩
set_option maxRecDepth 100000 in
set_option maxHeartbeats 4000000 in
theorem cnew_yes (id : Int) (n : Nat) (ways : Int) (h1 : ¬ id < 0) (h2 : ¬ 4 ≤ id) (hr : rightB ((n : Nat) : Int) ways = true) (w : World) : Calls Try.prog 12 #[.int .i64 id, .int .i64 ((n : Nat) : Int), .int .i64 ways] w (Ret fun v w' => ∃ b Fp, v = .tuple #[.pointer (some ⟨b, 0, none⟩), .int .i64 0] ∧ CacheAt w' Fp b ⟨id, n, ways, [], none, none⟩ ∧ (∀ g, Fp g → w.heap.size ≤ g) ∧ New w w') := by
 have hF := Only.refl (fun _ => False) w
 refine Zen 30 Try.func12 ?_
 refine Zsr ?_
 refine Za ?_
 refine Za ?_
 refine Znn ?_
 refine Zsr ?_
 refine Zm ?_
 refine Zm ?_
 refine Zk cf42 (new_yes n ways _ hr) ?_
 rintro v w5 ⟨b1, Fp2, rfl, H3, hb4, hN6⟩
 have gA_Fp2 := gA_newP hF hb4
 refine Zm ?_
 refine Zt ?_
 refine Zt ?_
 refine Za ?_
 refine Za ?_
 refine Znn ?_
 refine Zsq ?_
 refine Zsr ?_
 refine Zm ?_
 refine Zv (.bool false) (fun _ fr => x_neq rfl (fr.ev rfl) rfl rfl) ?_
 refine Zm ?_
 refine Zm ?_
 refine Zv (.bool false) (fun _ fr => x_lss rfl (fr.ev rfl) rfl (decide_eq_false h1)) ?_
 refine Zpf ?_
 refine Zm ?_
 refine Zm ?_
 refine Zv (.bool false) (fun _ fr => x_geq rfl (fr.ev rfl) rfl (decide_eq_false h2)) ?_
 refine Zpf ?_
 refine Znn ?_
 refine Zcf ?_
 refine Zsk ?_
 refine Znx ?_
 refine Zsr ?_
 refine Zm ?_
 refine Zm ?_
 refine Zv (.agg (#[.int .i64 id, .pointer (some ⟨b1, 0, none⟩), .pointer none, .pointer none])) (fun a fr => x_build (cells := #[.int .i64 id, .pointer (some ⟨b1, 0, none⟩), .pointer none, .pointer none]) rfl (by simp only [List.map_toArray, List.map_cons, List.map_nil, show a.eval (.tmp 26) = .int .i64 id from fr.ev rfl, show a.eval (.tmp 27) = .pointer (some ⟨b1, 0, none⟩) from fr.ev rfl]; kernel_rfl)) ?_
 refine Znb (cs := #[.int .i64 id, .pointer (some ⟨b1, 0, none⟩), .pointer none, .pointer none]) fun b7 w8 hN9 B10 hb11 => ?_
 have ap_Fp2_b7 : ¬ Fp2 b7 := H3.apart hb11
 replace hF := hF.trNew hN6
 have g_b7 := Nat.le_trans hF.size hb11
 refine Za ?_
 refine Za ?_
 refine Znn ?_
 refine Zrt ?_
 refine Zre rfl [_, _] ⟨rfl, rfl, trivial⟩ ?_
 replace H3 := H3.new hN9
 replace hF := hF.trNew hN9
 exact ⟨_, rfl, b7, (fun k => k = b7 ∨ Fp2 k ∨ (fun _ => False) k ∨ (fun _ => False) k), rfl, ⟨_, Fp2, _, _, (fun _ => False), (fun _ => False), B10, H3, ⟨rfl, fun _ h => h⟩, ⟨rfl, fun _ h => h⟩, ⟨ap_Fp2_b7, fun h => h, fun h => h, fun _ _ h => h, fun _ _ h => h, fun _ h => h.elim, fun _ => Iff.rfl⟩⟩, (fun g hg => hg.elim (fun e => by rw [e]; exact g_b7) fun h => h.elim (fun h => (gA_Fp2 g h).resolve_left (fun h => h)) fun h => h.elim (fun h => h.elim) (fun h => h.elim)), hF⟩
end Go.Proofs.Ytflnlmibkbojcaa
namespace Go.Proofs.Ytflnlmibkbojcaa
open Go.RowKit
set_option maxRecDepth 100000 in
set_option maxHeartbeats 4000000 in
theorem ask_b1 {w : World} {Fp : Nat → Prop} {b : Nat} {id : Int} {n : Nat} {ways : Int} {L : List Ln} {al : Int} {aw : Bool} {giv : Option Ln} (H : CacheAt w Fp b ⟨id, n, ways, L, (some (al, aw)), giv⟩) (line : Int) (hln : 0 ≤ line ∧ line < 4294967296) (pick : Int) (wr : Bool) : Calls Try.prog 13 #[.pointer (some ⟨b, 0, none⟩), .int .u32 line, .bool wr, .int .i64 pick] w (Ret fun v w' => v = .tuple #[.slice none 0 0, .int .i64 230] ∧ New w w') := by
 obtain ⟨lb, FpL, pa, pg, FpA, FpG, hB, hL, hA, hG, hP⟩ := H
 dsimp only at hB hL hA hG
 have ap_FpL_b := hP.lb
 obtain ⟨hn1, hn2, hw1, hw2⟩ := hL.bd
 have gA_FpA := fun g (hg : FpA g) => (Or.inl trivial : True ∨ w.heap.size ≤ g)
 have hF := Only.refl (fun _ => False) w
 refine Zen 91 Try.func13 ?_
 refine Zsr ?_
 refine Za ?_
 refine Za ?_
 refine Znn ?_
 refine Zsq ?_
 refine Zsr ?_
 refine Zm ?_
 refine Zk cf43 (cnone_c hB) ?_
 rintro v w9 ⟨rfl, hw9⟩
 obtain rfl := hw9.symm
 refine Znn ?_
 refine Zcf ?_
 refine Zsk ?_
 refine Znx ?_
 refine Zsr ?_
 refine Zm ?_
 refine Zm ?_
 refine Zk (args := #[.pointer (some ⟨b, 0, none⟩), .int .u32 line]) cf34 (state_c line (by omega) hB hL ap_FpL_b) ?_
 rintro v w3 ⟨rfl, hN4⟩
 refine Za ?_
 refine Znn ?_
 refine Zsq ?_
 refine Zbl ?_
 refine Zsq ?_
 replace hA := hA.new hN4
 obtain ⟨ba, rfl, hAB, hAF, hal⟩ := hA
 have gi_ba := gA_FpA ba ((hAF ba).2 rfl)
 refine Zrg ?_
 refine Zm ?_
 refine Zn ?_
 refine Zf fo83_2 ?_
 replace hB := hB.new hN4
 refine Zd pl80 (hB.cell 2 rfl) ?_
 refine Zv (.bool true) (fun _ fr => x_pneq Try.underlying80 rfl (fr.ev rfl) rfl rfl) ?_
 refine Zm ?_
 refine Zs ?_
 refine Zs ?_
 refine Zs ?_
 refine Zs ?_
 refine Zs ?_
 refine Zs ?_
 refine Zs ?_
 refine Zs ?_
 refine Zs ?_
 refine Zs ?_
 refine Zs ?_
 refine Zs ?_
 refine Zs ?_
 refine Zs ?_
 refine Zs ?_
 refine Zs ?_
 refine Zpt ?_
 refine Za ?_
 refine Znn ?_
 refine Zct ?_
 refine Zsr ?_
 refine Za ?_
 refine Za ?_
 refine Znn ?_
 refine Zrt ?_
 refine Zr2 ?_
 refine Zr1 ?_
 refine Zre rfl [_, _] ⟨rfl, rfl, trivial⟩ ?_
 replace hF := hF.trNew hN4
 exact ⟨_, rfl, rfl, hF⟩
set_option maxRecDepth 100000 in
set_option maxHeartbeats 4000000 in
theorem ask_b2 {w : World} {Fp : Nat → Prop} {b : Nat} {id : Int} {n : Nat} {ways : Int} {L : List Ln} {gx : Ln} (H : CacheAt w Fp b ⟨id, n, ways, L, none, (some gx)⟩) (line : Int) (hln : 0 ≤ line ∧ line < 4294967296) (pick : Int) (hg : gx.num = line) (wr : Bool) : Calls Try.prog 13 #[.pointer (some ⟨b, 0, none⟩), .int .u32 line, .bool wr, .int .i64 pick] w (Ret fun v w' => v = .tuple #[.slice none 0 0, .int .i64 230] ∧ New w w') := by
 obtain ⟨lb, FpL, pa, pg, FpA, FpG, hB, hL, hA, hG, hP⟩ := H
 dsimp only at hB hL hA hG
 have ap_FpL_b := hP.lb
 obtain ⟨hn1, hn2, hw1, hw2⟩ := hL.bd
 have gA_FpG := fun g (hg : FpG g) => (Or.inl trivial : True ∨ w.heap.size ≤ g)
 have hF := Only.refl (fun _ => False) w
 refine Zen 91 Try.func13 ?_
 refine Zsr ?_
 refine Za ?_
 refine Za ?_
 refine Znn ?_
 refine Zsq ?_
 refine Zsr ?_
 refine Zm ?_
 refine Zk cf43 (cnone_c hB) ?_
 rintro v w9 ⟨rfl, hw9⟩
 obtain rfl := hw9.symm
 refine Znn ?_
 refine Zcf ?_
 refine Zsk ?_
 refine Znx ?_
 refine Zsr ?_
 refine Zm ?_
 refine Zm ?_
 refine Zk (args := #[.pointer (some ⟨b, 0, none⟩), .int .u32 line]) cf34 (state_c line (by omega) hB hL ap_FpL_b) ?_
 rintro v w3 ⟨rfl, hN4⟩
 refine Za ?_
 refine Znn ?_
 refine Zsq ?_
 refine Zbl ?_
 refine Zsq ?_
 replace hA := hA.new hN4
 obtain ⟨rfl, hA0⟩ := hA
 replace hG := hG.new hN4
 obtain ⟨bg, rfl, hGB, hGF⟩ := hG
 have gi_bg := gA_FpG bg ((hGF bg).2 rfl)
 refine Zrg ?_
 refine Zm ?_
 refine Zn ?_
 refine Zf fo83_2 ?_
 replace hB := hB.new hN4
 refine Zd pl80 (hB.cell 2 rfl) ?_
 refine Zv (.bool false) (fun _ fr => x_pneq Try.underlying80 rfl (fr.ev rfl) rfl rfl) ?_
 refine Zm ?_
 refine Zm ?_
 refine Zn ?_
 refine Zf fo83_3 ?_
 refine Zd pl81 (hB.cell 3 rfl) ?_
 refine Zv (.bool true) (fun _ fr => x_pneq Try.underlying81 rfl (fr.ev rfl) rfl rfl) ?_
 refine Zm ?_
 refine Zm ?_
 refine Zn ?_
 refine Zf fo83_3 ?_
 refine Zd pl81 (hB.cell 3 rfl) ?_
 refine Zn ?_
 refine Zf fo39_0 ?_
 refine Zd (v := .int .u32 gx.num) pl32 (hGB.cell 0 rfl) ?_
 refine Zm ?_
 refine Zv (.bool true) (fun _ fr => x_eql rfl (fr.ev rfl) (fr.ev rfl) (decide_eq_true hg)) ?_
 refine Zpt ?_
 refine Zpf ?_
 refine Za ?_
 refine Znn ?_
 refine Zct ?_
 refine Zsr ?_
 refine Za ?_
 refine Za ?_
 refine Znn ?_
 refine Zrt ?_
 refine Zr2 ?_
 refine Zr1 ?_
 refine Zre rfl [_, _] ⟨rfl, rfl, trivial⟩ ?_
 replace hF := hF.trNew hN4
 exact ⟨_, rfl, rfl, hF⟩
set_option maxRecDepth 100000 in
set_option maxHeartbeats 4000000 in
theorem ask_trn {w : World} {Fp : Nat → Prop} {b : Nat} {id : Int} {n : Nat} {ways : Int} {L : List Ln} (H : CacheAt w Fp b ⟨id, n, ways, L, none, none⟩) (line : Int) (hln : 0 ≤ line ∧ line < 4294967296) (pick : Int) (hs : stateOf L line ≠ 0)  : Calls Try.prog 13 #[.pointer (some ⟨b, 0, none⟩), .int .u32 line, .bool false, .int .i64 pick] w (Ret fun v w' => v = .tuple #[.slice none 0 0, .int .i64 231] ∧ New w w') := by
 obtain ⟨lb, FpL, pa, pg, FpA, FpG, hB, hL, hA, hG, hP⟩ := H
 dsimp only at hB hL hA hG
 have ap_FpL_b := hP.lb
 obtain ⟨hn1, hn2, hw1, hw2⟩ := hL.bd
 have hF := Only.refl (fun _ => False) w
 refine Zen 91 Try.func13 ?_
 refine Zsr ?_
 refine Za ?_
 refine Za ?_
 refine Znn ?_
 refine Zsq ?_
 refine Zsr ?_
 refine Zm ?_
 refine Zk cf43 (cnone_c hB) ?_
 rintro v w9 ⟨rfl, hw9⟩
 obtain rfl := hw9.symm
 refine Znn ?_
 refine Zcf ?_
 refine Zsk ?_
 refine Znx ?_
 refine Zsr ?_
 refine Zm ?_
 refine Zm ?_
 refine Zk (args := #[.pointer (some ⟨b, 0, none⟩), .int .u32 line]) cf34 (state_c line (by omega) hB hL ap_FpL_b) ?_
 rintro v w3 ⟨rfl, hN4⟩
 refine Za ?_
 refine Znn ?_
 refine Zsq ?_
 refine Zbl ?_
 refine Zsq ?_
 replace hA := hA.new hN4
 obtain ⟨rfl, hA0⟩ := hA
 replace hG := hG.new hN4
 obtain ⟨rfl, hG0⟩ := hG
 refine Zrg ?_
 refine Zm ?_
 refine Zn ?_
 refine Zf fo83_2 ?_
 replace hB := hB.new hN4
 refine Zd pl80 (hB.cell 2 rfl) ?_
 refine Zv (.bool false) (fun _ fr => x_pneq Try.underlying80 rfl (fr.ev rfl) rfl rfl) ?_
 refine Zm ?_
 refine Zm ?_
 refine Zn ?_
 refine Zf fo83_3 ?_
 refine Zd pl81 (hB.cell 3 rfl) ?_
 refine Zv (.bool false) (fun _ fr => x_pneq Try.underlying81 rfl (fr.ev rfl) rfl rfl) ?_
 refine Zm ?_
 refine Zs ?_
 refine Zs ?_
 refine Zs ?_
 refine Zs ?_
 refine Zs ?_
 refine Zs ?_
 refine Zs ?_
 refine Zs ?_
 refine Zs ?_
 refine Zpf ?_
 refine Zpf ?_
 refine Za ?_
 refine Znn ?_
 refine Zcf ?_
 refine Zsr ?_
 refine Zm ?_
 refine Zv (.bool true) (fun _ fr => x_neq rfl (fr.ev rfl) rfl (decide_eq_true hs)) ?_
 refine Zm ?_
 refine Zm ?_
 refine Zv (.bool true) (fun _ fr => x_not rfl (fr.ev rfl) rfl) ?_
 refine Zm ?_
 refine Zs ?_
 refine Zs ?_
 refine Zpt ?_
 refine Zpt ?_
 refine Za ?_
 refine Znn ?_
 refine Zct ?_
 refine Zsr ?_
 refine Za ?_
 refine Za ?_
 refine Znn ?_
 refine Zrt ?_
 refine Zr2 ?_
 refine Zr1 ?_
 refine Zre rfl [_, _] ⟨rfl, rfl, trivial⟩ ?_
 replace hF := hF.trNew hN4
 exact ⟨_, rfl, rfl, hF⟩
set_option maxRecDepth 100000 in
set_option maxHeartbeats 4000000 in
theorem ask_nr0n {w : World} {Fp : Nat → Prop} {b : Nat} {id : Int} {n : Nat} {ways : Int} {L : List Ln} (H : CacheAt w Fp b ⟨id, n, ways, L, none, none⟩) (line : Int) (hln : 0 ≤ line ∧ line < 4294967296) (pick : Int) (hs : ¬ stateOf L line ≠ 0) (hv : vicL n ways L line pick = none) : Calls Try.prog 13 #[.pointer (some ⟨b, 0, none⟩), .int .u32 line, .bool false, .int .i64 pick] w (Ret fun v w' => ∃ A' cap', v = .tuple #[.slice A' ([askM id line false hln]).length cap', .int .i64 0] ∧ Own msgE w' A' cap' ([askM id line false hln]) ∧ (∀ g, inA A' g → w.heap.size ≤ g) ∧ ∃ Fp', CacheAt w' Fp' b ⟨id, n, ways, L, (some (line, false)), none⟩ ∧ Only Fp w w' ∧ ∀ g, Fp' g → Fp g ∨ w.heap.size ≤ g) := by
 obtain ⟨lb, FpL, pa, pg, FpA, FpG, hB, hL, hA, hG, hP⟩ := H
 dsimp only at hB hL hA hG
 have ap_FpL_b := hP.lb
 obtain ⟨hn1, hn2, hw1, hw2⟩ := hL.bd
 have gA_FpL : ∀ g, FpL g → Fp g ∨ w.heap.size ≤ g := fun g hg => .inl ((hP.foot g).2 (.inr (.inl hg)))
 have hF := Only.refl (Fp) w
 refine Zen 91 Try.func13 ?_
 refine Zsr ?_
 refine Za ?_
 refine Za ?_
 refine Znn ?_
 refine Zsq ?_
 refine Zsr ?_
 refine Zm ?_
 refine Zk cf43 (cnone_c hB) ?_
 rintro v w9 ⟨rfl, hw9⟩
 obtain rfl := hw9.symm
 refine Znn ?_
 refine Zcf ?_
 refine Zsk ?_
 refine Znx ?_
 refine Zsr ?_
 refine Zm ?_
 refine Zm ?_
 refine Zk (args := #[.pointer (some ⟨b, 0, none⟩), .int .u32 line]) cf34 (state_c line (by omega) hB hL ap_FpL_b) ?_
 rintro v w3 ⟨rfl, hN4⟩
 refine Za ?_
 refine Znn ?_
 refine Zsq ?_
 refine Zbl ?_
 refine Zsq ?_
 replace hA := hA.new hN4
 obtain ⟨rfl, hA0⟩ := hA
 replace hG := hG.new hN4
 obtain ⟨rfl, hG0⟩ := hG
 refine Zrg ?_
 refine Zm ?_
 refine Zn ?_
 refine Zf fo83_2 ?_
 replace hB := hB.new hN4
 refine Zd pl80 (hB.cell 2 rfl) ?_
 refine Zv (.bool false) (fun _ fr => x_pneq Try.underlying80 rfl (fr.ev rfl) rfl rfl) ?_
 refine Zm ?_
 refine Zm ?_
 refine Zn ?_
 refine Zf fo83_3 ?_
 refine Zd pl81 (hB.cell 3 rfl) ?_
 refine Zv (.bool false) (fun _ fr => x_pneq Try.underlying81 rfl (fr.ev rfl) rfl rfl) ?_
 refine Zm ?_
 refine Zs ?_
 refine Zs ?_
 refine Zs ?_
 refine Zs ?_
 refine Zs ?_
 refine Zs ?_
 refine Zs ?_
 refine Zs ?_
 refine Zs ?_
 refine Zpf ?_
 refine Zpf ?_
 refine Za ?_
 refine Znn ?_
 refine Zcf ?_
 refine Zsr ?_
 refine Zm ?_
 refine Zv (.bool false) (fun _ fr => x_neq rfl (fr.ev rfl) rfl (decide_eq_false hs)) ?_
 refine Zm ?_
 refine Zs ?_
 refine Zs ?_
 refine Zs ?_
 refine Zs ?_
 refine Zs ?_
 refine Zs ?_
 refine Zpf ?_
 refine Za ?_
 refine Znn ?_
 refine Zcf ?_
 refine Zsk ?_
 refine Zb ?_
 refine Znx ?_
 refine Zsq ?_
 refine Zsr ?_
 refine Zm ?_
 refine Zn ?_
 refine Zf fo83_1 ?_
 refine Zd pl79 (hB.cell 1 rfl) ?_
 refine Zm ?_
 refine Zm ?_
 replace hL := hL.new hN4
 refine Zk (args := #[.pointer (some ⟨lb, 0, none⟩), .int .u32 line, .int .i64 pick]) cf45 (victim_c line (by omega) pick hL) ?_
 rintro v w5 ⟨rfl, hN6⟩
 intro a fr
 rw [hv] at fr
 simp only [Option.getD_none, Option.isSome_none] at fr
 revert a
 refine Zm ?_
 refine Zt ?_
 refine Zt ?_
 refine Zna (z := zv1) (cs := lnE.arr ln0) (by kernel_rfl) fun b7 w8 hN9 B10 hb11 => ?_
 replace hB := hB.new hN6
 have ne_b_b7 : NE b b7 := NE.mk (Nat.lt_of_lt_of_le hB.lt hb11)
 replace hL := hL.new hN6
 have ap_FpL_b7 : ¬ FpL b7 := hL.apart hb11
 replace hF := (hF.trNew hN4).trNew hN6
 have g_b7 := Nat.le_trans hF.size hb11
 refine ZsS sz39 (lnE.all _) B10 (lnE.size _) (lnE.size _) fun w12 hO13 hBq => ?_
 clear hBq
 refine Za ?_
 refine Znn ?_
 refine Zsr ?_
 refine Zm ?_
 refine Znn ?_
 refine Zcf ?_
 refine Zsk ?_
 refine Znx ?_
 refine Zsr ?_
 refine Zm ?_
 refine Zm ?_
 refine Zm ?_
 refine Zv (.agg (#[.int .u32 line, .bool false])) (fun a fr => x_build (cells := #[.int .u32 line, .bool false]) rfl (by simp only [List.map_toArray, List.map_cons, List.map_nil, show a.eval (.tmp 77) = .int .u32 line from fr.ev rfl, show a.eval (.tmp 78) = .bool false from fr.ev rfl]; kernel_rfl)) ?_
 refine Znb (cs := #[.int .u32 line, .bool false]) fun b14 w15 hN16 B17 hb18 => ?_
 replace hB := (hB.new hN9).only hO13 ne_b_b7
 have ne_b_b14 : NE b b14 := NE.mk (Nat.lt_of_lt_of_le hB.lt hb18)
 replace hL := (hL.new hN9).only hO13 (ne1P ap_FpL_b7)
 have ap_FpL_b14 : ¬ FpL b14 := hL.apart hb18
 replace hF := (hF.trNew hN9).loc hO13 (.inr g_b7)
 have g_b14 := Nat.le_trans hF.size hb18
 refine Zn ?_
 refine Zf fo83_2 ?_
 replace hB := hB.new hN16
 refine Zs1 (cs' := #[.int .i64 id, .pointer (some ⟨lb, 0, none⟩), .pointer (some ⟨b14, 0, none⟩), .pointer none]) sz80 hB (show 2 < 4 by decide) rfl fun w19 hO20 hBq => ?_
 replace hB := hBq
 clear hBq
 refine Znn ?_
 refine Zsr ?_
 refine Za ?_
 refine Znn ?_
 refine Zsq ?_
 refine Zsr ?_
 refine Zm ?_
 refine Znn ?_
 refine Zcf ?_
 refine Zsk ?_
 refine Znx ?_
 refine Zsr ?_
 refine Zm ?_
 refine Zm ?_
 refine Zm ?_
 refine Zm ?_
 refine Zk (args := #[.pointer (some ⟨b, 0, none⟩), .int .i64 1, .int .u32 line]) cf47 (msg_c hB 1 line (by omega)) ?_
 rintro v w21 ⟨rfl, hN22⟩
 intro a fr
 refine fx_build1 (E := msgE) (p := (mkM 1 id 4 line)) elMsg (by decide) fr rfl rfl (by decide) rfl (fr.ev rfl) ?_
 clear fr a
 intro A23 w24 hN25 O26 hA27
 intro a fr
 refine fx_append (E := msgE) (l := []) (l' := [(mkM 1 id 4 line)]) elMsg fr rfl rfl (by decide) rfl (fr.ev rfl) (fr.ev rfl) (by first | rfl | (simp; done) | (simp; omega)) (by first | rfl | (simp; done) | (simp; omega)) Own.nil O26.view (by first | omega | (simp only [List.length_append, List.length_cons, List.length_nil, List.nil_append]; omega)) (by first | (unfold maxLen; done) | (unfold maxLen; first | omega | (simp; done) | (simp; omega))) ?_
 clear fr a
 intro A28 cap29 w30 O31 hO32 mv33
 replace hF := (((hF.trNew hN16).loc hO20 (.inl ((hP.foot b).2 (.inl rfl)))).trNew hN22).trNew hN25
 have gN_A28 := fun g (hg : inA A28 g) => (mv33 g hg).elim (fun h => absurd h (apart_none g)) (fun h => Nat.le_trans hF.size h)
 replace hO32 := only_none hO32
 refine Za ?_
 refine Za ?_
 refine Znn ?_
 refine Zrt ?_
 refine Zre rfl [_, _] ⟨rfl, rfl, trivial⟩ ?_
 have gi_b14 : Fp b14 ∨ w.heap.size ≤ b14 := .inr g_b14
 replace hL := ((((hL.new hN16).only hO20 (ne1P ap_FpL_b)).new hN22).new hN25).new hO32
 replace B17 := (((B17.only hO20 ne_b_b14.symm).new hN22).new hN25).new hO32
 replace hB := ((hB.new hN22).new hN25).new hO32
 replace hF := hF.trNew hO32
 exact ⟨_, rfl, A28, cap29, rfl, O31, gN_A28, (fun k => k = b ∨ FpL k ∨ (fun k => k = b14) k ∨ (fun _ => False) k), ⟨lb, FpL, _, _, (fun k => k = b14), (fun _ => False), hB, hL, ⟨b14, rfl, B17, fun _ => Iff.rfl, hln⟩, ⟨rfl, fun _ h => h⟩, ⟨ap_FpL_b, (fun e => (show ¬ b = b14 from ne_b_b14) e), (fun h => h), (fun k hk e => ap_FpL_b14 (e ▸ hk)), (fun _ _ h => h), (fun _ _ h => h), fun _ => Iff.rfl⟩⟩, hF, (fun g hg => hg.elim (fun e => by rw [e]; exact .inl ((hP.foot b).2 (.inl rfl))) fun h => h.elim (gA_FpL g) fun h => h.elim (fun e => by rw [e]; exact gi_b14) (fun h => h.elim))⟩
set_option maxRecDepth 100000 in
set_option maxHeartbeats 4000000 in
theorem ask_sr0n {w : World} {Fp : Nat → Prop} {b : Nat} {id : Int} {n : Nat} {ways : Int} {L : List Ln} (H : CacheAt w Fp b ⟨id, n, ways, L, none, none⟩) (line : Int) (hln : 0 ≤ line ∧ line < 4294967296) (pick : Int) (hs : ¬ stateOf L line ≠ 0) (vx : Ln) (hv : vicL n ways L line pick = some vx) (hx : vx.state = 1) : Calls Try.prog 13 #[.pointer (some ⟨b, 0, none⟩), .int .u32 line, .bool false, .int .i64 pick] w (Ret fun v w' => ∃ A' cap', v = .tuple #[.slice A' ([askM id line false hln]).length cap', .int .i64 0] ∧ Own msgE w' A' cap' ([askM id line false hln]) ∧ (∀ g, inA A' g → w.heap.size ≤ g) ∧ ∃ Fp', CacheAt w' Fp' b ⟨id, n, ways, dropL L vx.num, (some (line, false)), none⟩ ∧ Only Fp w w' ∧ ∀ g, Fp' g → Fp g ∨ w.heap.size ≤ g) := by
 obtain ⟨lb, FpL, pa, pg, FpA, FpG, hB, hL, hA, hG, hP⟩ := H
 dsimp only at hB hL hA hG
 have ap_FpL_b := hP.lb
 obtain ⟨hn1, hn2, hw1, hw2⟩ := hL.bd
 have gA_FpL : ∀ g, FpL g → Fp g ∨ w.heap.size ≤ g := fun g hg => .inl ((hP.foot g).2 (.inr (.inl hg)))
 have hF := Only.refl (Fp) w
 refine Zen 91 Try.func13 ?_
 refine Zsr ?_
 refine Za ?_
 refine Za ?_
 refine Znn ?_
 refine Zsq ?_
 refine Zsr ?_
 refine Zm ?_
 refine Zk cf43 (cnone_c hB) ?_
 rintro v w9 ⟨rfl, hw9⟩
 obtain rfl := hw9.symm
 refine Znn ?_
 refine Zcf ?_
 refine Zsk ?_
 refine Znx ?_
 refine Zsr ?_
 refine Zm ?_
 refine Zm ?_
 refine Zk (args := #[.pointer (some ⟨b, 0, none⟩), .int .u32 line]) cf34 (state_c line (by omega) hB hL ap_FpL_b) ?_
 rintro v w3 ⟨rfl, hN4⟩
 refine Za ?_
 refine Znn ?_
 refine Zsq ?_
 refine Zbl ?_
 refine Zsq ?_
 replace hA := hA.new hN4
 obtain ⟨rfl, hA0⟩ := hA
 replace hG := hG.new hN4
 obtain ⟨rfl, hG0⟩ := hG
 refine Zrg ?_
 refine Zm ?_
 refine Zn ?_
 refine Zf fo83_2 ?_
 replace hB := hB.new hN4
 refine Zd pl80 (hB.cell 2 rfl) ?_
 refine Zv (.bool false) (fun _ fr => x_pneq Try.underlying80 rfl (fr.ev rfl) rfl rfl) ?_
 refine Zm ?_
 refine Zm ?_
 refine Zn ?_
 refine Zf fo83_3 ?_
 refine Zd pl81 (hB.cell 3 rfl) ?_
 refine Zv (.bool false) (fun _ fr => x_pneq Try.underlying81 rfl (fr.ev rfl) rfl rfl) ?_
 refine Zm ?_
 refine Zs ?_
 refine Zs ?_
 refine Zs ?_
 refine Zs ?_
 refine Zs ?_
 refine Zs ?_
 refine Zs ?_
 refine Zs ?_
 refine Zs ?_
 refine Zpf ?_
 refine Zpf ?_
 refine Za ?_
 refine Znn ?_
 refine Zcf ?_
 refine Zsr ?_
 refine Zm ?_
 refine Zv (.bool false) (fun _ fr => x_neq rfl (fr.ev rfl) rfl (decide_eq_false hs)) ?_
 refine Zm ?_
 refine Zs ?_
 refine Zs ?_
 refine Zs ?_
 refine Zs ?_
 refine Zs ?_
 refine Zs ?_
 refine Zpf ?_
 refine Za ?_
 refine Znn ?_
 refine Zcf ?_
 refine Zsk ?_
 refine Zb ?_
 refine Znx ?_
 refine Zsq ?_
 refine Zsr ?_
 refine Zm ?_
 refine Zn ?_
 refine Zf fo83_1 ?_
 refine Zd pl79 (hB.cell 1 rfl) ?_
 refine Zm ?_
 refine Zm ?_
 replace hL := hL.new hN4
 refine Zk (args := #[.pointer (some ⟨lb, 0, none⟩), .int .u32 line, .int .i64 pick]) cf45 (victim_c line (by omega) pick hL) ?_
 rintro v w5 ⟨rfl, hN6⟩
 intro a fr
 rw [hv] at fr
 simp only [Option.getD_some, Option.isSome_some] at fr
 revert a
 refine Zm ?_
 refine Zt ?_
 refine Zt ?_
 refine Zna (z := zv1) (cs := lnE.arr ln0) (by kernel_rfl) fun b7 w8 hN9 B10 hb11 => ?_
 replace hB := hB.new hN6
 have ne_b_b7 : NE b b7 := NE.mk (Nat.lt_of_lt_of_le hB.lt hb11)
 replace hL := hL.new hN6
 have ap_FpL_b7 : ¬ FpL b7 := hL.apart hb11
 replace hF := (hF.trNew hN4).trNew hN6
 have g_b7 := Nat.le_trans hF.size hb11
 refine ZsS sz39 (lnE.all _) B10 (lnE.size _) (lnE.size _) fun w12 hO13 hBq => ?_
 replace B10 := hBq
 clear hBq
 refine Za ?_
 refine Znn ?_
 refine Zsr ?_
 refine Zm ?_
 refine Znn ?_
 refine Zct ?_
 refine Zsr ?_
 refine Zm ?_
 refine ZE lnE ag39 (B10.rangeE lnE) ?_
 replace hB := (hB.new hN9).only hO13 ne_b_b7
 replace hL := (hL.new hN9).only hO13 (ne1P ap_FpL_b7)
 refine Zk cf46 (out_s hB hL ap_FpL_b vx hx) ?_
 rintro v w18 ⟨rfl, hB14, Fp15, H16, mv17, hN19⟩
 have ap_Fp15_b : ¬ Fp15 b := moved_apartP mv17 ap_FpL_b hB.lt
 replace hF := (hF.trNew hN9).loc hO13 (.inr g_b7)
 have gA_Fp15 := gA_movedP hF mv17 gA_FpL
 clear hL
 replace hB := hB14
 clear hB14
 refine Zm ?_
 refine Zt ?_
 refine Zt ?_
 refine Za ?_
 refine Za ?_
 refine Znn ?_
 refine Zsq ?_
 refine Zsr ?_
 refine Zm ?_
 refine Zv (.bool false) (fun _ fr => x_not rfl (fr.ev rfl) rfl) ?_
 refine Znn ?_
 refine Zcf ?_
 refine Zsk ?_
 refine Znx ?_
 refine Zrg ?_
 refine Zm ?_
 refine Za ?_
 refine Znn ?_
 refine Zsr ?_
 refine Zm ?_
 refine Zm ?_
 refine Zm ?_
 refine Zv (.agg (#[.int .u32 line, .bool false])) (fun a fr => x_build (cells := #[.int .u32 line, .bool false]) rfl (by simp only [List.map_toArray, List.map_cons, List.map_nil, show a.eval (.tmp 77) = .int .u32 line from fr.ev rfl, show a.eval (.tmp 78) = .bool false from fr.ev rfl]; kernel_rfl)) ?_
 refine Znb (cs := #[.int .u32 line, .bool false]) fun b20 w21 hN22 B23 hb24 => ?_
 have ne_b_b20 : NE b b20 := NE.mk (Nat.lt_of_lt_of_le hB.lt hb24)
 have ap_Fp15_b20 : ¬ Fp15 b20 := H16.apart hb24
 replace hF := hF.locS hN19 (fun i => (fun h => h.elim (fun e => by rw [e]; exact (.inl ((hP.foot b).2 (.inl rfl)))) (fun h => gA_FpL i h)))
 have g_b20 := Nat.le_trans hF.size hb24
 refine Zn ?_
 refine Zf fo83_2 ?_
 replace hB := hB.new hN22
 refine Zs1 (cs' := #[.int .i64 id, .pointer (some ⟨lb, 0, none⟩), .pointer (some ⟨b20, 0, none⟩), .pointer none]) sz80 hB (show 2 < 4 by decide) rfl fun w25 hO26 hBq => ?_
 replace hB := hBq
 clear hBq
 refine Znn ?_
 refine Zsr ?_
 refine Za ?_
 refine Znn ?_
 refine Zsq ?_
 refine Zsr ?_
 refine Zm ?_
 refine Znn ?_
 refine Zcf ?_
 refine Zsk ?_
 refine Znx ?_
 refine Zsr ?_
 refine Zm ?_
 refine Zm ?_
 refine Zm ?_
 refine Zm ?_
 refine Zk (args := #[.pointer (some ⟨b, 0, none⟩), .int .i64 1, .int .u32 line]) cf47 (msg_c hB 1 line (by omega)) ?_
 rintro v w27 ⟨rfl, hN28⟩
 intro a fr
 refine fx_build1 (E := msgE) (p := (mkM 1 id 4 line)) elMsg (by decide) fr rfl rfl (by decide) rfl (fr.ev rfl) ?_
 clear fr a
 intro A29 w30 hN31 O32 hA33
 intro a fr
 refine fx_append (E := msgE) (l := []) (l' := [(mkM 1 id 4 line)]) elMsg fr rfl rfl (by decide) rfl (fr.ev rfl) (fr.ev rfl) (by first | rfl | (simp; done) | (simp; omega)) (by first | rfl | (simp; done) | (simp; omega)) Own.nil O32.view (by first | omega | (simp only [List.length_append, List.length_cons, List.length_nil, List.nil_append]; omega)) (by first | (unfold maxLen; done) | (unfold maxLen; first | omega | (simp; done) | (simp; omega))) ?_
 clear fr a
 intro A34 cap35 w36 O37 hO38 mv39
 replace hF := (((hF.trNew hN22).loc hO26 (.inl ((hP.foot b).2 (.inl rfl)))).trNew hN28).trNew hN31
 have gN_A34 := fun g (hg : inA A34 g) => (mv39 g hg).elim (fun h => absurd h (apart_none g)) (fun h => Nat.le_trans hF.size h)
 replace hO38 := only_none hO38
 refine Za ?_
 refine Za ?_
 refine Znn ?_
 refine Zrt ?_
 refine Zre rfl [_, _] ⟨rfl, rfl, trivial⟩ ?_
 have gi_b20 : Fp b20 ∨ w.heap.size ≤ b20 := .inr g_b20
 replace H16 := ((((H16.new hN22).only hO26 (ne1P ap_Fp15_b)).new hN28).new hN31).new hO38
 replace B23 := (((B23.only hO26 ne_b_b20.symm).new hN28).new hN31).new hO38
 replace hB := ((hB.new hN28).new hN31).new hO38
 replace hF := hF.trNew hO38
 exact ⟨_, rfl, A34, cap35, rfl, O37, gN_A34, (fun k => k = b ∨ Fp15 k ∨ (fun k => k = b20) k ∨ (fun _ => False) k), ⟨lb, Fp15, _, _, (fun k => k = b20), (fun _ => False), hB, H16, ⟨b20, rfl, B23, fun _ => Iff.rfl, hln⟩, ⟨rfl, fun _ h => h⟩, ⟨ap_Fp15_b, (fun e => (show ¬ b = b20 from ne_b_b20) e), (fun h => h), (fun k hk e => ap_Fp15_b20 (e ▸ hk)), (fun _ _ h => h), (fun _ _ h => h), fun _ => Iff.rfl⟩⟩, hF, (fun g hg => hg.elim (fun e => by rw [e]; exact .inl ((hP.foot b).2 (.inl rfl))) fun h => h.elim (gA_Fp15 g) fun h => h.elim (fun e => by rw [e]; exact gi_b20) (fun h => h.elim))⟩
set_option maxRecDepth 100000 in
set_option maxHeartbeats 4000000 in
theorem ask_pr0n {w : World} {Fp : Nat → Prop} {b : Nat} {id : Int} {n : Nat} {ways : Int} {L : List Ln} (H : CacheAt w Fp b ⟨id, n, ways, L, none, none⟩) (line : Int) (hln : 0 ≤ line ∧ line < 4294967296) (pick : Int) (hs : ¬ stateOf L line ≠ 0) (vx : Ln) (hv : vicL n ways L line pick = some vx) (hx : ¬ vx.state = 1) : Calls Try.prog 13 #[.pointer (some ⟨b, 0, none⟩), .int .u32 line, .bool false, .int .i64 pick] w (Ret fun v w' => ∃ A' cap', v = .tuple #[.slice A' ([putM id vx] ++ [askM id line false hln]).length cap', .int .i64 0] ∧ Own msgE w' A' cap' ([putM id vx] ++ [askM id line false hln]) ∧ (∀ g, inA A' g → w.heap.size ≤ g) ∧ ∃ Fp', CacheAt w' Fp' b ⟨id, n, ways, dropL L vx.num, (some (line, false)), (some vx)⟩ ∧ Only Fp w w' ∧ ∀ g, Fp' g → Fp g ∨ w.heap.size ≤ g) := by
 obtain ⟨lb, FpL, pa, pg, FpA, FpG, hB, hL, hA, hG, hP⟩ := H
 dsimp only at hB hL hA hG
 have ap_FpL_b := hP.lb
 obtain ⟨hn1, hn2, hw1, hw2⟩ := hL.bd
 have gA_FpL : ∀ g, FpL g → Fp g ∨ w.heap.size ≤ g := fun g hg => .inl ((hP.foot g).2 (.inr (.inl hg)))
 have hF := Only.refl (Fp) w
 refine Zen 91 Try.func13 ?_
 refine Zsr ?_
 refine Za ?_
 refine Za ?_
 refine Znn ?_
 refine Zsq ?_
 refine Zsr ?_
 refine Zm ?_
 refine Zk cf43 (cnone_c hB) ?_
 rintro v w9 ⟨rfl, hw9⟩
 obtain rfl := hw9.symm
 refine Znn ?_
 refine Zcf ?_
 refine Zsk ?_
 refine Znx ?_
 refine Zsr ?_
 refine Zm ?_
 refine Zm ?_
 refine Zk (args := #[.pointer (some ⟨b, 0, none⟩), .int .u32 line]) cf34 (state_c line (by omega) hB hL ap_FpL_b) ?_
 rintro v w3 ⟨rfl, hN4⟩
 refine Za ?_
 refine Znn ?_
 refine Zsq ?_
 refine Zbl ?_
 refine Zsq ?_
 replace hA := hA.new hN4
 obtain ⟨rfl, hA0⟩ := hA
 replace hG := hG.new hN4
 obtain ⟨rfl, hG0⟩ := hG
 refine Zrg ?_
 refine Zm ?_
 refine Zn ?_
 refine Zf fo83_2 ?_
 replace hB := hB.new hN4
 refine Zd pl80 (hB.cell 2 rfl) ?_
 refine Zv (.bool false) (fun _ fr => x_pneq Try.underlying80 rfl (fr.ev rfl) rfl rfl) ?_
 refine Zm ?_
 refine Zm ?_
 refine Zn ?_
 refine Zf fo83_3 ?_
 refine Zd pl81 (hB.cell 3 rfl) ?_
 refine Zv (.bool false) (fun _ fr => x_pneq Try.underlying81 rfl (fr.ev rfl) rfl rfl) ?_
 refine Zm ?_
 refine Zs ?_
 refine Zs ?_
 refine Zs ?_
 refine Zs ?_
 refine Zs ?_
 refine Zs ?_
 refine Zs ?_
 refine Zs ?_
 refine Zs ?_
 refine Zpf ?_
 refine Zpf ?_
 refine Za ?_
 refine Znn ?_
 refine Zcf ?_
 refine Zsr ?_
 refine Zm ?_
 refine Zv (.bool false) (fun _ fr => x_neq rfl (fr.ev rfl) rfl (decide_eq_false hs)) ?_
 refine Zm ?_
 refine Zs ?_
 refine Zs ?_
 refine Zs ?_
 refine Zs ?_
 refine Zs ?_
 refine Zs ?_
 refine Zpf ?_
 refine Za ?_
 refine Znn ?_
 refine Zcf ?_
 refine Zsk ?_
 refine Zb ?_
 refine Znx ?_
 refine Zsq ?_
 refine Zsr ?_
 refine Zm ?_
 refine Zn ?_
 refine Zf fo83_1 ?_
 refine Zd pl79 (hB.cell 1 rfl) ?_
 refine Zm ?_
 refine Zm ?_
 replace hL := hL.new hN4
 refine Zk (args := #[.pointer (some ⟨lb, 0, none⟩), .int .u32 line, .int .i64 pick]) cf45 (victim_c line (by omega) pick hL) ?_
 rintro v w5 ⟨rfl, hN6⟩
 intro a fr
 rw [hv] at fr
 simp only [Option.getD_some, Option.isSome_some] at fr
 revert a
 refine Zm ?_
 refine Zt ?_
 refine Zt ?_
 refine Zna (z := zv1) (cs := lnE.arr ln0) (by kernel_rfl) fun b7 w8 hN9 B10 hb11 => ?_
 replace hB := hB.new hN6
 have ne_b_b7 : NE b b7 := NE.mk (Nat.lt_of_lt_of_le hB.lt hb11)
 replace hL := hL.new hN6
 have ap_FpL_b7 : ¬ FpL b7 := hL.apart hb11
 replace hF := (hF.trNew hN4).trNew hN6
 have g_b7 := Nat.le_trans hF.size hb11
 refine ZsS sz39 (lnE.all _) B10 (lnE.size _) (lnE.size _) fun w12 hO13 hBq => ?_
 replace B10 := hBq
 clear hBq
 refine Za ?_
 refine Znn ?_
 refine Zsr ?_
 refine Zm ?_
 refine Znn ?_
 refine Zct ?_
 refine Zsr ?_
 refine Zm ?_
 refine ZE lnE ag39 (B10.rangeE lnE) ?_
 replace hB := (hB.new hN9).only hO13 ne_b_b7
 replace hL := (hL.new hN9).only hO13 (ne1P ap_FpL_b7)
 refine Zk cf46 (out_n hB hL ap_FpL_b vx hx) ?_
 rintro v w25 ⟨A18, cap19, rfl, O20, hA21, b22, B23, hB14, hb24, Fp15, H16, mv17, ap_Fp15_b22, ap_A18_b22, ap2_Fp15_A18, hN26⟩
 have ap_Fp15_b : ¬ Fp15 b := moved_apartP mv17 ap_FpL_b hB.lt
 replace hF := (hF.trNew hN9).loc hO13 (.inr g_b7)
 have gA_Fp15 := gA_movedP hF mv17 gA_FpL
 have ne_b_b22 : NE b b22 := NE.mk (Nat.lt_of_lt_of_le hB.lt hb24)
 have g_b22 := Nat.le_trans hF.size hb24
 have ap_A18_b : Apart A18 b := new_apart hA21 hB.lt
 have gA_A18 := gA_new hF hA21
 have gN_A18 := fun g (hg : inA A18 g) => Nat.le_trans hF.size (hA21 g hg)
 clear hL
 replace hB := hB14
 clear hB14
 have gi_b22 : Fp b22 ∨ w.heap.size ≤ b22 := .inr g_b22
 refine Zm ?_
 refine Zt ?_
 refine Zt ?_
 refine Za ?_
 refine Za ?_
 refine Znn ?_
 refine Zsq ?_
 refine Zsr ?_
 refine Zm ?_
 refine Zv (.bool false) (fun _ fr => x_not rfl (fr.ev rfl) rfl) ?_
 refine Znn ?_
 refine Zcf ?_
 refine Zsk ?_
 refine Znx ?_
 refine Zrg ?_
 refine Zm ?_
 refine Za ?_
 refine Znn ?_
 refine Zsr ?_
 refine Zm ?_
 refine Zm ?_
 refine Zm ?_
 refine Zv (.agg (#[.int .u32 line, .bool false])) (fun a fr => x_build (cells := #[.int .u32 line, .bool false]) rfl (by simp only [List.map_toArray, List.map_cons, List.map_nil, show a.eval (.tmp 77) = .int .u32 line from fr.ev rfl, show a.eval (.tmp 78) = .bool false from fr.ev rfl]; kernel_rfl)) ?_
 refine Znb (cs := #[.int .u32 line, .bool false]) fun b27 w28 hN29 B30 hb31 => ?_
 have ne_b_b27 : NE b b27 := NE.mk (Nat.lt_of_lt_of_le hB.lt hb31)
 have ap_A18_b27 : Apart A18 b27 := O20.apart hb31
 have ne_b22_b27 : NE b22 b27 := NE.mk (Nat.lt_of_lt_of_le B23.lt hb31)
 have ap_Fp15_b27 : ¬ Fp15 b27 := H16.apart hb31
 replace hF := hF.locS hN26 (fun i => (fun h => h.elim (fun e => by rw [e]; exact (.inl ((hP.foot b).2 (.inl rfl)))) (fun h => gA_FpL i h)))
 have g_b27 := Nat.le_trans hF.size hb31
 refine Zn ?_
 refine Zf fo83_2 ?_
 replace hB := hB.new hN29
 refine Zs1 (cs' := #[.int .i64 id, .pointer (some ⟨lb, 0, none⟩), .pointer (some ⟨b27, 0, none⟩), .pointer (some ⟨b22, 0, none⟩)]) sz80 hB (show 2 < 4 by decide) rfl fun w32 hO33 hBq => ?_
 replace hB := hBq
 clear hBq
 refine Znn ?_
 refine Zsr ?_
 refine Za ?_
 refine Znn ?_
 refine Zsq ?_
 refine Zsr ?_
 refine Zm ?_
 refine Znn ?_
 refine Zcf ?_
 refine Zsk ?_
 refine Znx ?_
 refine Zsr ?_
 refine Zm ?_
 refine Zm ?_
 refine Zm ?_
 refine Zm ?_
 refine Zk (args := #[.pointer (some ⟨b, 0, none⟩), .int .i64 1, .int .u32 line]) cf47 (msg_c hB 1 line (by omega)) ?_
 rintro v w34 ⟨rfl, hN35⟩
 intro a fr
 refine fx_build1 (E := msgE) (p := (mkM 1 id 4 line)) elMsg (by decide) fr rfl rfl (by decide) rfl (fr.ev rfl) ?_
 clear fr a
 intro A36 w37 hN38 O39 hA40
 intro a fr
 replace O20 := (((O20.new hN29).only hO33 (Apart.ne1 ap_A18_b)).new hN35).new hN38
 refine fx_append (E := msgE) (l := [putM id vx]) (l' := [(mkM 1 id 4 line)]) elMsg fr rfl rfl (by decide) rfl (fr.ev rfl) (fr.ev rfl) (by first | rfl | (simp; done) | (simp; omega)) (by first | rfl | (simp; done) | (simp; omega)) O20 O39.view (by first | omega | (simp only [List.length_append, List.length_cons, List.length_nil, List.nil_append]; omega)) (by first | (unfold maxLen; done) | (unfold maxLen; first | omega | (simp; done) | (simp; omega))) ?_
 clear fr a
 intro A41 cap42 w43 O44 hO45 mv46
 replace hF := (((hF.trNew hN29).loc hO33 (.inl ((hP.foot b).2 (.inl rfl)))).trNew hN35).trNew hN38
 have gN_A41 := fun g (hg : inA A41 g) => (mv46 g hg).elim (gN_A18 g) (fun h => Nat.le_trans hF.size h)
 clear O20
 refine Za ?_
 refine Za ?_
 refine Znn ?_
 refine Zrt ?_
 refine Zre rfl [_, _] ⟨rfl, rfl, trivial⟩ ?_
 have gi_b27 : Fp b27 ∨ w.heap.size ≤ b27 := .inr g_b27
 replace B23 := ((((B23.new hN29).only hO33 ne_b_b22.symm).new hN35).new hN38).only hO45 ap_A18_b22
 replace H16 := ((((H16.new hN29).only hO33 (ne1P ap_Fp15_b)).new hN35).new hN38).only hO45 (fun g h1 h2 => ap2_Fp15_A18 g h1 h2)
 replace B30 := (((B30.only hO33 ne_b_b27.symm).new hN35).new hN38).only hO45 ap_A18_b27
 replace hB := ((hB.new hN35).new hN38).only hO45 ap_A18_b
 replace hF := hF.locA hO45 gA_A18
 exact ⟨_, rfl, A41, cap42, rfl, O44, gN_A41, (fun k => k = b ∨ Fp15 k ∨ (fun k => k = b27) k ∨ (fun k => k = b22) k), ⟨lb, Fp15, _, _, (fun k => k = b27), (fun k => k = b22), hB, H16, ⟨b27, rfl, B30, fun _ => Iff.rfl, hln⟩, ⟨b22, rfl, B23, fun _ => Iff.rfl⟩, ⟨ap_Fp15_b, (fun e => (show ¬ b = b27 from ne_b_b27) e), (fun e => (show ¬ b = b22 from ne_b_b22) e), (fun k hk e => ap_Fp15_b27 (e ▸ hk)), (fun k hk e => ap_Fp15_b22 (e ▸ hk)), (fun k e e2 => (show ¬ b27 = b22 from ne_b22_b27.symm) (e.symm.trans e2)), fun _ => Iff.rfl⟩⟩, hF, (fun g hg => hg.elim (fun e => by rw [e]; exact .inl ((hP.foot b).2 (.inl rfl))) fun h => h.elim (gA_Fp15 g) fun h => h.elim (fun e => by rw [e]; exact gi_b27) (fun e => by rw [e]; exact gi_b22))⟩
set_option maxRecDepth 100000 in
set_option maxHeartbeats 4000000 in
theorem ask_trs {w : World} {Fp : Nat → Prop} {b : Nat} {id : Int} {n : Nat} {ways : Int} {L : List Ln} {gx : Ln} (H : CacheAt w Fp b ⟨id, n, ways, L, none, (some gx)⟩) (line : Int) (hln : 0 ≤ line ∧ line < 4294967296) (pick : Int) (hg : ¬ gx.num = line) (hs : stateOf L line ≠ 0)  : Calls Try.prog 13 #[.pointer (some ⟨b, 0, none⟩), .int .u32 line, .bool false, .int .i64 pick] w (Ret fun v w' => v = .tuple #[.slice none 0 0, .int .i64 231] ∧ New w w') := by
 obtain ⟨lb, FpL, pa, pg, FpA, FpG, hB, hL, hA, hG, hP⟩ := H
 dsimp only at hB hL hA hG
 have ap_FpL_b := hP.lb
 obtain ⟨hn1, hn2, hw1, hw2⟩ := hL.bd
 have gA_FpG := fun g (hg : FpG g) => (Or.inl trivial : True ∨ w.heap.size ≤ g)
 have hF := Only.refl (fun _ => False) w
 refine Zen 91 Try.func13 ?_
 refine Zsr ?_
 refine Za ?_
 refine Za ?_
 refine Znn ?_
 refine Zsq ?_
 refine Zsr ?_
 refine Zm ?_
 refine Zk cf43 (cnone_c hB) ?_
 rintro v w9 ⟨rfl, hw9⟩
 obtain rfl := hw9.symm
 refine Znn ?_
 refine Zcf ?_
 refine Zsk ?_
 refine Znx ?_
 refine Zsr ?_
 refine Zm ?_
 refine Zm ?_
 refine Zk (args := #[.pointer (some ⟨b, 0, none⟩), .int .u32 line]) cf34 (state_c line (by omega) hB hL ap_FpL_b) ?_
 rintro v w3 ⟨rfl, hN4⟩
 refine Za ?_
 refine Znn ?_
 refine Zsq ?_
 refine Zbl ?_
 refine Zsq ?_
 replace hA := hA.new hN4
 obtain ⟨rfl, hA0⟩ := hA
 replace hG := hG.new hN4
 obtain ⟨bg, rfl, hGB, hGF⟩ := hG
 have gi_bg := gA_FpG bg ((hGF bg).2 rfl)
 refine Zrg ?_
 refine Zm ?_
 refine Zn ?_
 refine Zf fo83_2 ?_
 replace hB := hB.new hN4
 refine Zd pl80 (hB.cell 2 rfl) ?_
 refine Zv (.bool false) (fun _ fr => x_pneq Try.underlying80 rfl (fr.ev rfl) rfl rfl) ?_
 refine Zm ?_
 refine Zm ?_
 refine Zn ?_
 refine Zf fo83_3 ?_
 refine Zd pl81 (hB.cell 3 rfl) ?_
 refine Zv (.bool true) (fun _ fr => x_pneq Try.underlying81 rfl (fr.ev rfl) rfl rfl) ?_
 refine Zm ?_
 refine Zm ?_
 refine Zn ?_
 refine Zf fo83_3 ?_
 refine Zd pl81 (hB.cell 3 rfl) ?_
 refine Zn ?_
 refine Zf fo39_0 ?_
 refine Zd (v := .int .u32 gx.num) pl32 (hGB.cell 0 rfl) ?_
 refine Zm ?_
 refine Zv (.bool false) (fun _ fr => x_eql rfl (fr.ev rfl) (fr.ev rfl) (decide_eq_false hg)) ?_
 refine Zpt ?_
 refine Zpf ?_
 refine Za ?_
 refine Znn ?_
 refine Zcf ?_
 refine Zsr ?_
 refine Zm ?_
 refine Zv (.bool true) (fun _ fr => x_neq rfl (fr.ev rfl) rfl (decide_eq_true hs)) ?_
 refine Zm ?_
 refine Zm ?_
 refine Zv (.bool true) (fun _ fr => x_not rfl (fr.ev rfl) rfl) ?_
 refine Zm ?_
 refine Zs ?_
 refine Zs ?_
 refine Zpt ?_
 refine Zpt ?_
 refine Za ?_
 refine Znn ?_
 refine Zct ?_
 refine Zsr ?_
 refine Za ?_
 refine Za ?_
 refine Znn ?_
 refine Zrt ?_
 refine Zr2 ?_
 refine Zr1 ?_
 refine Zre rfl [_, _] ⟨rfl, rfl, trivial⟩ ?_
 replace hF := hF.trNew hN4
 exact ⟨_, rfl, rfl, hF⟩
set_option maxRecDepth 100000 in
set_option maxHeartbeats 4000000 in
theorem ask_nr0s {w : World} {Fp : Nat → Prop} {b : Nat} {id : Int} {n : Nat} {ways : Int} {L : List Ln} {gx : Ln} (H : CacheAt w Fp b ⟨id, n, ways, L, none, (some gx)⟩) (line : Int) (hln : 0 ≤ line ∧ line < 4294967296) (pick : Int) (hg : ¬ gx.num = line) (hs : ¬ stateOf L line ≠ 0) (hv : vicL n ways L line pick = none) : Calls Try.prog 13 #[.pointer (some ⟨b, 0, none⟩), .int .u32 line, .bool false, .int .i64 pick] w (Ret fun v w' => ∃ A' cap', v = .tuple #[.slice A' ([askM id line false hln]).length cap', .int .i64 0] ∧ Own msgE w' A' cap' ([askM id line false hln]) ∧ (∀ g, inA A' g → w.heap.size ≤ g) ∧ ∃ Fp', CacheAt w' Fp' b ⟨id, n, ways, L, (some (line, false)), (some gx)⟩ ∧ Only Fp w w' ∧ ∀ g, Fp' g → Fp g ∨ w.heap.size ≤ g) := by
 obtain ⟨lb, FpL, pa, pg, FpA, FpG, hB, hL, hA, hG, hP⟩ := H
 dsimp only at hB hL hA hG
 have ap_FpL_b := hP.lb
 have ap_FpG_b := hP.gb
 have ap2_FpL_FpG := hP.lg
 obtain ⟨hn1, hn2, hw1, hw2⟩ := hL.bd
 have gA_FpL : ∀ g, FpL g → Fp g ∨ w.heap.size ≤ g := fun g hg => .inl ((hP.foot g).2 (.inr (.inl hg)))
 have gA_FpG : ∀ g, FpG g → Fp g ∨ w.heap.size ≤ g := fun g hg => .inl ((hP.foot g).2 (.inr (.inr (.inr hg))))
 have hF := Only.refl (Fp) w
 refine Zen 91 Try.func13 ?_
 refine Zsr ?_
 refine Za ?_
 refine Za ?_
 refine Znn ?_
 refine Zsq ?_
 refine Zsr ?_
 refine Zm ?_
 refine Zk cf43 (cnone_c hB) ?_
 rintro v w9 ⟨rfl, hw9⟩
 obtain rfl := hw9.symm
 refine Znn ?_
 refine Zcf ?_
 refine Zsk ?_
 refine Znx ?_
 refine Zsr ?_
 refine Zm ?_
 refine Zm ?_
 refine Zk (args := #[.pointer (some ⟨b, 0, none⟩), .int .u32 line]) cf34 (state_c line (by omega) hB hL ap_FpL_b) ?_
 rintro v w3 ⟨rfl, hN4⟩
 refine Za ?_
 refine Znn ?_
 refine Zsq ?_
 refine Zbl ?_
 refine Zsq ?_
 replace hA := hA.new hN4
 obtain ⟨rfl, hA0⟩ := hA
 replace hG := hG.new hN4
 obtain ⟨bg, rfl, hGB, hGF⟩ := hG
 have ne_bg_b : NE bg b := fun e => ap_FpG_b (e ▸ (hGF bg).2 rfl)
 have ap_FpL_bg : ¬ FpL bg := fun h => ap2_FpL_FpG bg h ((hGF bg).2 rfl)
 have gi_bg := gA_FpG bg ((hGF bg).2 rfl)
 refine Zrg ?_
 refine Zm ?_
 refine Zn ?_
 refine Zf fo83_2 ?_
 replace hB := hB.new hN4
 refine Zd pl80 (hB.cell 2 rfl) ?_
 refine Zv (.bool false) (fun _ fr => x_pneq Try.underlying80 rfl (fr.ev rfl) rfl rfl) ?_
 refine Zm ?_
 refine Zm ?_
 refine Zn ?_
 refine Zf fo83_3 ?_
 refine Zd pl81 (hB.cell 3 rfl) ?_
 refine Zv (.bool true) (fun _ fr => x_pneq Try.underlying81 rfl (fr.ev rfl) rfl rfl) ?_
 refine Zm ?_
 refine Zm ?_
 refine Zn ?_
 refine Zf fo83_3 ?_
 refine Zd pl81 (hB.cell 3 rfl) ?_
 refine Zn ?_
 refine Zf fo39_0 ?_
 refine Zd (v := .int .u32 gx.num) pl32 (hGB.cell 0 rfl) ?_
 refine Zm ?_
 refine Zv (.bool false) (fun _ fr => x_eql rfl (fr.ev rfl) (fr.ev rfl) (decide_eq_false hg)) ?_
 refine Zpt ?_
 refine Zpf ?_
 refine Za ?_
 refine Znn ?_
 refine Zcf ?_
 refine Zsr ?_
 refine Zm ?_
 refine Zv (.bool false) (fun _ fr => x_neq rfl (fr.ev rfl) rfl (decide_eq_false hs)) ?_
 refine Zm ?_
 refine Zs ?_
 refine Zs ?_
 refine Zs ?_
 refine Zs ?_
 refine Zs ?_
 refine Zs ?_
 refine Zpf ?_
 refine Za ?_
 refine Znn ?_
 refine Zcf ?_
 refine Zsk ?_
 refine Zb ?_
 refine Znx ?_
 refine Zsq ?_
 refine Zsr ?_
 refine Zm ?_
 refine Zn ?_
 refine Zf fo83_1 ?_
 refine Zd pl79 (hB.cell 1 rfl) ?_
 refine Zm ?_
 refine Zm ?_
 replace hL := hL.new hN4
 refine Zk (args := #[.pointer (some ⟨lb, 0, none⟩), .int .u32 line, .int .i64 pick]) cf45 (victim_c line (by omega) pick hL) ?_
 rintro v w5 ⟨rfl, hN6⟩
 intro a fr
 rw [hv] at fr
 simp only [Option.getD_none, Option.isSome_none] at fr
 revert a
 refine Zm ?_
 refine Zt ?_
 refine Zt ?_
 refine Zna (z := zv1) (cs := lnE.arr ln0) (by kernel_rfl) fun b7 w8 hN9 B10 hb11 => ?_
 replace hB := hB.new hN6
 have ne_b_b7 : NE b b7 := NE.mk (Nat.lt_of_lt_of_le hB.lt hb11)
 replace hL := hL.new hN6
 have ap_FpL_b7 : ¬ FpL b7 := hL.apart hb11
 replace hGB := hGB.new hN6
 have ne_bg_b7 : NE bg b7 := NE.mk (Nat.lt_of_lt_of_le hGB.lt hb11)
 replace hF := (hF.trNew hN4).trNew hN6
 have g_b7 := Nat.le_trans hF.size hb11
 refine ZsS sz39 (lnE.all _) B10 (lnE.size _) (lnE.size _) fun w12 hO13 hBq => ?_
 clear hBq
 refine Za ?_
 refine Znn ?_
 refine Zsr ?_
 refine Zm ?_
 refine Znn ?_
 refine Zcf ?_
 refine Zsk ?_
 refine Znx ?_
 refine Zsr ?_
 refine Zm ?_
 refine Zm ?_
 refine Zm ?_
 refine Zv (.agg (#[.int .u32 line, .bool false])) (fun a fr => x_build (cells := #[.int .u32 line, .bool false]) rfl (by simp only [List.map_toArray, List.map_cons, List.map_nil, show a.eval (.tmp 77) = .int .u32 line from fr.ev rfl, show a.eval (.tmp 78) = .bool false from fr.ev rfl]; kernel_rfl)) ?_
 refine Znb (cs := #[.int .u32 line, .bool false]) fun b14 w15 hN16 B17 hb18 => ?_
 replace hB := (hB.new hN9).only hO13 ne_b_b7
 have ne_b_b14 : NE b b14 := NE.mk (Nat.lt_of_lt_of_le hB.lt hb18)
 replace hL := (hL.new hN9).only hO13 (ne1P ap_FpL_b7)
 have ap_FpL_b14 : ¬ FpL b14 := hL.apart hb18
 replace hGB := (hGB.new hN9).only hO13 ne_bg_b7
 have ne_bg_b14 : NE bg b14 := NE.mk (Nat.lt_of_lt_of_le hGB.lt hb18)
 replace hF := (hF.trNew hN9).loc hO13 (.inr g_b7)
 have g_b14 := Nat.le_trans hF.size hb18
 refine Zn ?_
 refine Zf fo83_2 ?_
 replace hB := hB.new hN16
 refine Zs1 (cs' := #[.int .i64 id, .pointer (some ⟨lb, 0, none⟩), .pointer (some ⟨b14, 0, none⟩), .pointer (some ⟨bg, 0, none⟩)]) sz80 hB (show 2 < 4 by decide) rfl fun w19 hO20 hBq => ?_
 replace hB := hBq
 clear hBq
 refine Znn ?_
 refine Zsr ?_
 refine Za ?_
 refine Znn ?_
 refine Zsq ?_
 refine Zsr ?_
 refine Zm ?_
 refine Znn ?_
 refine Zcf ?_
 refine Zsk ?_
 refine Znx ?_
 refine Zsr ?_
 refine Zm ?_
 refine Zm ?_
 refine Zm ?_
 refine Zm ?_
 refine Zk (args := #[.pointer (some ⟨b, 0, none⟩), .int .i64 1, .int .u32 line]) cf47 (msg_c hB 1 line (by omega)) ?_
 rintro v w21 ⟨rfl, hN22⟩
 intro a fr
 refine fx_build1 (E := msgE) (p := (mkM 1 id 4 line)) elMsg (by decide) fr rfl rfl (by decide) rfl (fr.ev rfl) ?_
 clear fr a
 intro A23 w24 hN25 O26 hA27
 intro a fr
 refine fx_append (E := msgE) (l := []) (l' := [(mkM 1 id 4 line)]) elMsg fr rfl rfl (by decide) rfl (fr.ev rfl) (fr.ev rfl) (by first | rfl | (simp; done) | (simp; omega)) (by first | rfl | (simp; done) | (simp; omega)) Own.nil O26.view (by first | omega | (simp only [List.length_append, List.length_cons, List.length_nil, List.nil_append]; omega)) (by first | (unfold maxLen; done) | (unfold maxLen; first | omega | (simp; done) | (simp; omega))) ?_
 clear fr a
 intro A28 cap29 w30 O31 hO32 mv33
 replace hF := (((hF.trNew hN16).loc hO20 (.inl ((hP.foot b).2 (.inl rfl)))).trNew hN22).trNew hN25
 have gN_A28 := fun g (hg : inA A28 g) => (mv33 g hg).elim (fun h => absurd h (apart_none g)) (fun h => Nat.le_trans hF.size h)
 replace hO32 := only_none hO32
 refine Za ?_
 refine Za ?_
 refine Znn ?_
 refine Zrt ?_
 refine Zre rfl [_, _] ⟨rfl, rfl, trivial⟩ ?_
 have gi_b14 : Fp b14 ∨ w.heap.size ≤ b14 := .inr g_b14
 replace hL := ((((hL.new hN16).only hO20 (ne1P ap_FpL_b)).new hN22).new hN25).new hO32
 replace hGB := ((((hGB.new hN16).only hO20 ne_bg_b).new hN22).new hN25).new hO32
 replace B17 := (((B17.only hO20 ne_b_b14.symm).new hN22).new hN25).new hO32
 replace hB := ((hB.new hN22).new hN25).new hO32
 replace hF := hF.trNew hO32
 exact ⟨_, rfl, A28, cap29, rfl, O31, gN_A28, (fun k => k = b ∨ FpL k ∨ (fun k => k = b14) k ∨ (fun k => k = bg) k), ⟨lb, FpL, _, _, (fun k => k = b14), (fun k => k = bg), hB, hL, ⟨b14, rfl, B17, fun _ => Iff.rfl, hln⟩, ⟨bg, rfl, hGB, fun _ => Iff.rfl⟩, ⟨ap_FpL_b, (fun e => (show ¬ b = b14 from ne_b_b14) e), (fun e => (show ¬ b = bg from ne_bg_b.symm) e), (fun k hk e => ap_FpL_b14 (e ▸ hk)), (fun k hk e => ap_FpL_bg (e ▸ hk)), (fun k e e2 => (show ¬ b14 = bg from ne_bg_b14.symm) (e.symm.trans e2)), fun _ => Iff.rfl⟩⟩, hF, (fun g hg => hg.elim (fun e => by rw [e]; exact .inl ((hP.foot b).2 (.inl rfl))) fun h => h.elim (gA_FpL g) fun h => h.elim (fun e => by rw [e]; exact gi_b14) (fun e => by rw [e]; exact gi_bg))⟩
set_option maxRecDepth 100000 in
set_option maxHeartbeats 4000000 in
theorem ask_sr0s {w : World} {Fp : Nat → Prop} {b : Nat} {id : Int} {n : Nat} {ways : Int} {L : List Ln} {gx : Ln} (H : CacheAt w Fp b ⟨id, n, ways, L, none, (some gx)⟩) (line : Int) (hln : 0 ≤ line ∧ line < 4294967296) (pick : Int) (hg : ¬ gx.num = line) (hs : ¬ stateOf L line ≠ 0) (vx : Ln) (hv : vicL n ways L line pick = some vx) (hx : vx.state = 1) : Calls Try.prog 13 #[.pointer (some ⟨b, 0, none⟩), .int .u32 line, .bool false, .int .i64 pick] w (Ret fun v w' => ∃ A' cap', v = .tuple #[.slice A' ([askM id line false hln]).length cap', .int .i64 0] ∧ Own msgE w' A' cap' ([askM id line false hln]) ∧ (∀ g, inA A' g → w.heap.size ≤ g) ∧ ∃ Fp', CacheAt w' Fp' b ⟨id, n, ways, dropL L vx.num, (some (line, false)), (some gx)⟩ ∧ Only Fp w w' ∧ ∀ g, Fp' g → Fp g ∨ w.heap.size ≤ g) := by
 obtain ⟨lb, FpL, pa, pg, FpA, FpG, hB, hL, hA, hG, hP⟩ := H
 dsimp only at hB hL hA hG
 have ap_FpL_b := hP.lb
 have ap_FpG_b := hP.gb
 have ap2_FpL_FpG := hP.lg
 obtain ⟨hn1, hn2, hw1, hw2⟩ := hL.bd
 have gA_FpL : ∀ g, FpL g → Fp g ∨ w.heap.size ≤ g := fun g hg => .inl ((hP.foot g).2 (.inr (.inl hg)))
 have gA_FpG : ∀ g, FpG g → Fp g ∨ w.heap.size ≤ g := fun g hg => .inl ((hP.foot g).2 (.inr (.inr (.inr hg))))
 have hF := Only.refl (Fp) w
 refine Zen 91 Try.func13 ?_
 refine Zsr ?_
 refine Za ?_
 refine Za ?_
 refine Znn ?_
 refine Zsq ?_
 refine Zsr ?_
 refine Zm ?_
 refine Zk cf43 (cnone_c hB) ?_
 rintro v w9 ⟨rfl, hw9⟩
 obtain rfl := hw9.symm
 refine Znn ?_
 refine Zcf ?_
 refine Zsk ?_
 refine Znx ?_
 refine Zsr ?_
 refine Zm ?_
 refine Zm ?_
 refine Zk (args := #[.pointer (some ⟨b, 0, none⟩), .int .u32 line]) cf34 (state_c line (by omega) hB hL ap_FpL_b) ?_
 rintro v w3 ⟨rfl, hN4⟩
 refine Za ?_
 refine Znn ?_
 refine Zsq ?_
 refine Zbl ?_
 refine Zsq ?_
 replace hA := hA.new hN4
 obtain ⟨rfl, hA0⟩ := hA
 replace hG := hG.new hN4
 obtain ⟨bg, rfl, hGB, hGF⟩ := hG
 have ne_bg_b : NE bg b := fun e => ap_FpG_b (e ▸ (hGF bg).2 rfl)
 have ap_FpL_bg : ¬ FpL bg := fun h => ap2_FpL_FpG bg h ((hGF bg).2 rfl)
 have gi_bg := gA_FpG bg ((hGF bg).2 rfl)
 refine Zrg ?_
 refine Zm ?_
 refine Zn ?_
 refine Zf fo83_2 ?_
 replace hB := hB.new hN4
 refine Zd pl80 (hB.cell 2 rfl) ?_
 refine Zv (.bool false) (fun _ fr => x_pneq Try.underlying80 rfl (fr.ev rfl) rfl rfl) ?_
 refine Zm ?_
 refine Zm ?_
 refine Zn ?_
 refine Zf fo83_3 ?_
 refine Zd pl81 (hB.cell 3 rfl) ?_
 refine Zv (.bool true) (fun _ fr => x_pneq Try.underlying81 rfl (fr.ev rfl) rfl rfl) ?_
 refine Zm ?_
 refine Zm ?_
 refine Zn ?_
 refine Zf fo83_3 ?_
 refine Zd pl81 (hB.cell 3 rfl) ?_
 refine Zn ?_
 refine Zf fo39_0 ?_
 refine Zd (v := .int .u32 gx.num) pl32 (hGB.cell 0 rfl) ?_
 refine Zm ?_
 refine Zv (.bool false) (fun _ fr => x_eql rfl (fr.ev rfl) (fr.ev rfl) (decide_eq_false hg)) ?_
 refine Zpt ?_
 refine Zpf ?_
 refine Za ?_
 refine Znn ?_
 refine Zcf ?_
 refine Zsr ?_
 refine Zm ?_
 refine Zv (.bool false) (fun _ fr => x_neq rfl (fr.ev rfl) rfl (decide_eq_false hs)) ?_
 refine Zm ?_
 refine Zs ?_
 refine Zs ?_
 refine Zs ?_
 refine Zs ?_
 refine Zs ?_
 refine Zs ?_
 refine Zpf ?_
 refine Za ?_
 refine Znn ?_
 refine Zcf ?_
 refine Zsk ?_
 refine Zb ?_
 refine Znx ?_
 refine Zsq ?_
 refine Zsr ?_
 refine Zm ?_
 refine Zn ?_
 refine Zf fo83_1 ?_
 refine Zd pl79 (hB.cell 1 rfl) ?_
 refine Zm ?_
 refine Zm ?_
 replace hL := hL.new hN4
 refine Zk (args := #[.pointer (some ⟨lb, 0, none⟩), .int .u32 line, .int .i64 pick]) cf45 (victim_c line (by omega) pick hL) ?_
 rintro v w5 ⟨rfl, hN6⟩
 intro a fr
 rw [hv] at fr
 simp only [Option.getD_some, Option.isSome_some] at fr
 revert a
 refine Zm ?_
 refine Zt ?_
 refine Zt ?_
 refine Zna (z := zv1) (cs := lnE.arr ln0) (by kernel_rfl) fun b7 w8 hN9 B10 hb11 => ?_
 replace hB := hB.new hN6
 have ne_b_b7 : NE b b7 := NE.mk (Nat.lt_of_lt_of_le hB.lt hb11)
 replace hL := hL.new hN6
 have ap_FpL_b7 : ¬ FpL b7 := hL.apart hb11
 replace hGB := hGB.new hN6
 have ne_bg_b7 : NE bg b7 := NE.mk (Nat.lt_of_lt_of_le hGB.lt hb11)
 replace hF := (hF.trNew hN4).trNew hN6
 have g_b7 := Nat.le_trans hF.size hb11
 refine ZsS sz39 (lnE.all _) B10 (lnE.size _) (lnE.size _) fun w12 hO13 hBq => ?_
 replace B10 := hBq
 clear hBq
 refine Za ?_
 refine Znn ?_
 refine Zsr ?_
 refine Zm ?_
 refine Znn ?_
 refine Zct ?_
 refine Zsr ?_
 refine Zm ?_
 refine ZE lnE ag39 (B10.rangeE lnE) ?_
 replace hB := (hB.new hN9).only hO13 ne_b_b7
 replace hL := (hL.new hN9).only hO13 (ne1P ap_FpL_b7)
 refine Zk cf46 (out_s hB hL ap_FpL_b vx hx) ?_
 rintro v w18 ⟨rfl, hB14, Fp15, H16, mv17, hN19⟩
 have ap_Fp15_b : ¬ Fp15 b := moved_apartP mv17 ap_FpL_b hB.lt
 replace hGB := (hGB.new hN9).only hO13 ne_bg_b7
 have ap_Fp15_bg : ¬ Fp15 bg := moved_apartP mv17 ap_FpL_bg hGB.lt
 replace hF := (hF.trNew hN9).loc hO13 (.inr g_b7)
 have gA_Fp15 := gA_movedP hF mv17 gA_FpL
 clear hL
 replace hB := hB14
 clear hB14
 refine Zm ?_
 refine Zt ?_
 refine Zt ?_
 refine Za ?_
 refine Za ?_
 refine Znn ?_
 refine Zsq ?_
 refine Zsr ?_
 refine Zm ?_
 refine Zv (.bool false) (fun _ fr => x_not rfl (fr.ev rfl) rfl) ?_
 refine Znn ?_
 refine Zcf ?_
 refine Zsk ?_
 refine Znx ?_
 refine Zrg ?_
 refine Zm ?_
 refine Za ?_
 refine Znn ?_
 refine Zsr ?_
 refine Zm ?_
 refine Zm ?_
 refine Zm ?_
 refine Zv (.agg (#[.int .u32 line, .bool false])) (fun a fr => x_build (cells := #[.int .u32 line, .bool false]) rfl (by simp only [List.map_toArray, List.map_cons, List.map_nil, show a.eval (.tmp 77) = .int .u32 line from fr.ev rfl, show a.eval (.tmp 78) = .bool false from fr.ev rfl]; kernel_rfl)) ?_
 refine Znb (cs := #[.int .u32 line, .bool false]) fun b20 w21 hN22 B23 hb24 => ?_
 replace hGB := hGB.only hN19 (fun h => h.elim ne_bg_b ap_FpL_bg)
 have ne_bg_b20 : NE bg b20 := NE.mk (Nat.lt_of_lt_of_le hGB.lt hb24)
 have ne_b_b20 : NE b b20 := NE.mk (Nat.lt_of_lt_of_le hB.lt hb24)
 have ap_Fp15_b20 : ¬ Fp15 b20 := H16.apart hb24
 replace hF := hF.locS hN19 (fun i => (fun h => h.elim (fun e => by rw [e]; exact (.inl ((hP.foot b).2 (.inl rfl)))) (fun h => gA_FpL i h)))
 have g_b20 := Nat.le_trans hF.size hb24
 refine Zn ?_
 refine Zf fo83_2 ?_
 replace hB := hB.new hN22
 refine Zs1 (cs' := #[.int .i64 id, .pointer (some ⟨lb, 0, none⟩), .pointer (some ⟨b20, 0, none⟩), .pointer (some ⟨bg, 0, none⟩)]) sz80 hB (show 2 < 4 by decide) rfl fun w25 hO26 hBq => ?_
 replace hB := hBq
 clear hBq
 refine Znn ?_
 refine Zsr ?_
 refine Za ?_
 refine Znn ?_
 refine Zsq ?_
 refine Zsr ?_
 refine Zm ?_
 refine Znn ?_
 refine Zcf ?_
 refine Zsk ?_
 refine Znx ?_
 refine Zsr ?_
 refine Zm ?_
 refine Zm ?_
 refine Zm ?_
 refine Zm ?_
 refine Zk (args := #[.pointer (some ⟨b, 0, none⟩), .int .i64 1, .int .u32 line]) cf47 (msg_c hB 1 line (by omega)) ?_
 rintro v w27 ⟨rfl, hN28⟩
 intro a fr
 refine fx_build1 (E := msgE) (p := (mkM 1 id 4 line)) elMsg (by decide) fr rfl rfl (by decide) rfl (fr.ev rfl) ?_
 clear fr a
 intro A29 w30 hN31 O32 hA33
 intro a fr
 refine fx_append (E := msgE) (l := []) (l' := [(mkM 1 id 4 line)]) elMsg fr rfl rfl (by decide) rfl (fr.ev rfl) (fr.ev rfl) (by first | rfl | (simp; done) | (simp; omega)) (by first | rfl | (simp; done) | (simp; omega)) Own.nil O32.view (by first | omega | (simp only [List.length_append, List.length_cons, List.length_nil, List.nil_append]; omega)) (by first | (unfold maxLen; done) | (unfold maxLen; first | omega | (simp; done) | (simp; omega))) ?_
 clear fr a
 intro A34 cap35 w36 O37 hO38 mv39
 replace hF := (((hF.trNew hN22).loc hO26 (.inl ((hP.foot b).2 (.inl rfl)))).trNew hN28).trNew hN31
 have gN_A34 := fun g (hg : inA A34 g) => (mv39 g hg).elim (fun h => absurd h (apart_none g)) (fun h => Nat.le_trans hF.size h)
 replace hO38 := only_none hO38
 refine Za ?_
 refine Za ?_
 refine Znn ?_
 refine Zrt ?_
 refine Zre rfl [_, _] ⟨rfl, rfl, trivial⟩ ?_
 have gi_b20 : Fp b20 ∨ w.heap.size ≤ b20 := .inr g_b20
 replace hGB := ((((hGB.new hN22).only hO26 ne_bg_b).new hN28).new hN31).new hO38
 replace H16 := ((((H16.new hN22).only hO26 (ne1P ap_Fp15_b)).new hN28).new hN31).new hO38
 replace B23 := (((B23.only hO26 ne_b_b20.symm).new hN28).new hN31).new hO38
 replace hB := ((hB.new hN28).new hN31).new hO38
 replace hF := hF.trNew hO38
 exact ⟨_, rfl, A34, cap35, rfl, O37, gN_A34, (fun k => k = b ∨ Fp15 k ∨ (fun k => k = b20) k ∨ (fun k => k = bg) k), ⟨lb, Fp15, _, _, (fun k => k = b20), (fun k => k = bg), hB, H16, ⟨b20, rfl, B23, fun _ => Iff.rfl, hln⟩, ⟨bg, rfl, hGB, fun _ => Iff.rfl⟩, ⟨ap_Fp15_b, (fun e => (show ¬ b = b20 from ne_b_b20) e), (fun e => (show ¬ b = bg from ne_bg_b.symm) e), (fun k hk e => ap_Fp15_b20 (e ▸ hk)), (fun k hk e => ap_Fp15_bg (e ▸ hk)), (fun k e e2 => (show ¬ b20 = bg from ne_bg_b20.symm) (e.symm.trans e2)), fun _ => Iff.rfl⟩⟩, hF, (fun g hg => hg.elim (fun e => by rw [e]; exact .inl ((hP.foot b).2 (.inl rfl))) fun h => h.elim (gA_Fp15 g) fun h => h.elim (fun e => by rw [e]; exact gi_b20) (fun e => by rw [e]; exact gi_bg))⟩
set_option maxRecDepth 100000 in
set_option maxHeartbeats 4000000 in
theorem ask_br0s {w : World} {Fp : Nat → Prop} {b : Nat} {id : Int} {n : Nat} {ways : Int} {L : List Ln} {gx : Ln} (H : CacheAt w Fp b ⟨id, n, ways, L, none, (some gx)⟩) (line : Int) (hln : 0 ≤ line ∧ line < 4294967296) (pick : Int) (hg : ¬ gx.num = line) (hs : ¬ stateOf L line ≠ 0) (vx : Ln) (hv : vicL n ways L line pick = some vx) (hx : ¬ vx.state = 1) : Calls Try.prog 13 #[.pointer (some ⟨b, 0, none⟩), .int .u32 line, .bool false, .int .i64 pick] w (Ret fun v w' => v = .tuple #[.slice none 0 0, .int .i64 230] ∧ New w w') := by
 obtain ⟨lb, FpL, pa, pg, FpA, FpG, hB, hL, hA, hG, hP⟩ := H
 dsimp only at hB hL hA hG
 have ap_FpL_b := hP.lb
 obtain ⟨hn1, hn2, hw1, hw2⟩ := hL.bd
 have gA_FpG := fun g (hg : FpG g) => (Or.inl trivial : True ∨ w.heap.size ≤ g)
 have hF := Only.refl (fun _ => False) w
 refine Zen 91 Try.func13 ?_
 refine Zsr ?_
 refine Za ?_
 refine Za ?_
 refine Znn ?_
 refine Zsq ?_
 refine Zsr ?_
 refine Zm ?_
 refine Zk cf43 (cnone_c hB) ?_
 rintro v w9 ⟨rfl, hw9⟩
 obtain rfl := hw9.symm
 refine Znn ?_
 refine Zcf ?_
 refine Zsk ?_
 refine Znx ?_
 refine Zsr ?_
 refine Zm ?_
 refine Zm ?_
 refine Zk (args := #[.pointer (some ⟨b, 0, none⟩), .int .u32 line]) cf34 (state_c line (by omega) hB hL ap_FpL_b) ?_
 rintro v w3 ⟨rfl, hN4⟩
 refine Za ?_
 refine Znn ?_
 refine Zsq ?_
 refine Zbl ?_
 refine Zsq ?_
 replace hA := hA.new hN4
 obtain ⟨rfl, hA0⟩ := hA
 replace hG := hG.new hN4
 obtain ⟨bg, rfl, hGB, hGF⟩ := hG
 have gi_bg := gA_FpG bg ((hGF bg).2 rfl)
 refine Zrg ?_
 refine Zm ?_
 refine Zn ?_
 refine Zf fo83_2 ?_
 replace hB := hB.new hN4
 refine Zd pl80 (hB.cell 2 rfl) ?_
 refine Zv (.bool false) (fun _ fr => x_pneq Try.underlying80 rfl (fr.ev rfl) rfl rfl) ?_
 refine Zm ?_
 refine Zm ?_
 refine Zn ?_
 refine Zf fo83_3 ?_
 refine Zd pl81 (hB.cell 3 rfl) ?_
 refine Zv (.bool true) (fun _ fr => x_pneq Try.underlying81 rfl (fr.ev rfl) rfl rfl) ?_
 refine Zm ?_
 refine Zm ?_
 refine Zn ?_
 refine Zf fo83_3 ?_
 refine Zd pl81 (hB.cell 3 rfl) ?_
 refine Zn ?_
 refine Zf fo39_0 ?_
 refine Zd (v := .int .u32 gx.num) pl32 (hGB.cell 0 rfl) ?_
 refine Zm ?_
 refine Zv (.bool false) (fun _ fr => x_eql rfl (fr.ev rfl) (fr.ev rfl) (decide_eq_false hg)) ?_
 refine Zpt ?_
 refine Zpf ?_
 refine Za ?_
 refine Znn ?_
 refine Zcf ?_
 refine Zsr ?_
 refine Zm ?_
 refine Zv (.bool false) (fun _ fr => x_neq rfl (fr.ev rfl) rfl (decide_eq_false hs)) ?_
 refine Zm ?_
 refine Zs ?_
 refine Zs ?_
 refine Zs ?_
 refine Zs ?_
 refine Zs ?_
 refine Zs ?_
 refine Zpf ?_
 refine Za ?_
 refine Znn ?_
 refine Zcf ?_
 refine Zsk ?_
 refine Zb ?_
 refine Znx ?_
 refine Zsq ?_
 refine Zsr ?_
 refine Zm ?_
 refine Zn ?_
 refine Zf fo83_1 ?_
 refine Zd pl79 (hB.cell 1 rfl) ?_
 refine Zm ?_
 refine Zm ?_
 replace hL := hL.new hN4
 refine Zk (args := #[.pointer (some ⟨lb, 0, none⟩), .int .u32 line, .int .i64 pick]) cf45 (victim_c line (by omega) pick hL) ?_
 rintro v w5 ⟨rfl, hN6⟩
 intro a fr
 rw [hv] at fr
 simp only [Option.getD_some, Option.isSome_some] at fr
 revert a
 refine Zm ?_
 refine Zt ?_
 refine Zt ?_
 refine Zna (z := zv1) (cs := lnE.arr ln0) (by kernel_rfl) fun b7 w8 hN9 B10 hb11 => ?_
 replace hB := hB.new hN6
 have ne_b_b7 : NE b b7 := NE.mk (Nat.lt_of_lt_of_le hB.lt hb11)
 replace hL := hL.new hN6
 have ap_FpL_b7 : ¬ FpL b7 := hL.apart hb11
 replace hF := (hF.trNew hN4).trNew hN6
 have g_b7 := Nat.le_trans hF.size hb11
 refine ZsS sz39 (lnE.all _) B10 (lnE.size _) (lnE.size _) fun w12 hO13 hBq => ?_
 replace B10 := hBq
 clear hBq
 refine Za ?_
 refine Znn ?_
 refine Zsr ?_
 refine Zm ?_
 refine Znn ?_
 refine Zct ?_
 refine Zsr ?_
 refine Zm ?_
 refine ZE lnE ag39 (B10.rangeE lnE) ?_
 replace hB := (hB.new hN9).only hO13 ne_b_b7
 replace hL := (hL.new hN9).only hO13 (ne1P ap_FpL_b7)
 refine Zk cf46 (out_b hB hL ap_FpL_b vx hx) ?_
 rintro v w14 ⟨rfl, hN15⟩
 refine Zm ?_
 refine Zt ?_
 refine Zt ?_
 refine Za ?_
 refine Za ?_
 refine Znn ?_
 refine Zsq ?_
 refine Zsr ?_
 refine Zm ?_
 refine Zv (.bool true) (fun _ fr => x_not rfl (fr.ev rfl) rfl) ?_
 refine Znn ?_
 refine Zct ?_
 refine Zsr ?_
 refine Za ?_
 refine Za ?_
 refine Znn ?_
 refine Zrt ?_
 refine Zr1 ?_
 refine Zr1 ?_
 refine Zre rfl [_, _] ⟨rfl, rfl, trivial⟩ ?_
 replace hF := ((hF.trNew hN9).loc hO13 (.inr g_b7)).trNew hN15
 exact ⟨_, rfl, rfl, hF⟩
end Go.Proofs.Ytflnlmibkbojcaa
namespace Go.Proofs.Ytflnlmibkbojcaa
open Go.RowKit
set_option maxRecDepth 100000 in
set_option maxHeartbeats 4000000 in
theorem ask_twn {w : World} {Fp : Nat → Prop} {b : Nat} {id : Int} {n : Nat} {ways : Int} {L : List Ln} (H : CacheAt w Fp b ⟨id, n, ways, L, none, none⟩) (line : Int) (hln : 0 ≤ line ∧ line < 4294967296) (pick : Int) (hs : stateOf L line ≠ 0) (hw : writesB (stateOf L line) = true)  : Calls Try.prog 13 #[.pointer (some ⟨b, 0, none⟩), .int .u32 line, .bool true, .int .i64 pick] w (Ret fun v w' => v = .tuple #[.slice none 0 0, .int .i64 231] ∧ New w w') := by
 obtain ⟨lb, FpL, pa, pg, FpA, FpG, hB, hL, hA, hG, hP⟩ := H
 dsimp only at hB hL hA hG
 have ap_FpL_b := hP.lb
 obtain ⟨hn1, hn2, hw1, hw2⟩ := hL.bd
 have hF := Only.refl (fun _ => False) w
 refine Zen 91 Try.func13 ?_
 refine Zsr ?_
 refine Za ?_
 refine Za ?_
 refine Znn ?_
 refine Zsq ?_
 refine Zsr ?_
 refine Zm ?_
 refine Zk cf43 (cnone_c hB) ?_
 rintro v w9 ⟨rfl, hw9⟩
 obtain rfl := hw9.symm
 refine Znn ?_
 refine Zcf ?_
 refine Zsk ?_
 refine Znx ?_
 refine Zsr ?_
 refine Zm ?_
 refine Zm ?_
 refine Zk (args := #[.pointer (some ⟨b, 0, none⟩), .int .u32 line]) cf34 (state_c line (by omega) hB hL ap_FpL_b) ?_
 rintro v w3 ⟨rfl, hN4⟩
 refine Za ?_
 refine Znn ?_
 refine Zsq ?_
 refine Zbl ?_
 refine Zsq ?_
 replace hA := hA.new hN4
 obtain ⟨rfl, hA0⟩ := hA
 replace hG := hG.new hN4
 obtain ⟨rfl, hG0⟩ := hG
 refine Zrg ?_
 refine Zm ?_
 refine Zn ?_
 refine Zf fo83_2 ?_
 replace hB := hB.new hN4
 refine Zd pl80 (hB.cell 2 rfl) ?_
 refine Zv (.bool false) (fun _ fr => x_pneq Try.underlying80 rfl (fr.ev rfl) rfl rfl) ?_
 refine Zm ?_
 refine Zm ?_
 refine Zn ?_
 refine Zf fo83_3 ?_
 refine Zd pl81 (hB.cell 3 rfl) ?_
 refine Zv (.bool false) (fun _ fr => x_pneq Try.underlying81 rfl (fr.ev rfl) rfl rfl) ?_
 refine Zm ?_
 refine Zs ?_
 refine Zs ?_
 refine Zs ?_
 refine Zs ?_
 refine Zs ?_
 refine Zs ?_
 refine Zs ?_
 refine Zs ?_
 refine Zs ?_
 refine Zpf ?_
 refine Zpf ?_
 refine Za ?_
 refine Znn ?_
 refine Zcf ?_
 refine Zsr ?_
 refine Zm ?_
 refine Zv (.bool true) (fun _ fr => x_neq rfl (fr.ev rfl) rfl (decide_eq_true hs)) ?_
 refine Zm ?_
 refine Zm ?_
 refine Zv (.bool false) (fun _ fr => x_not rfl (fr.ev rfl) rfl) ?_
 refine Zm ?_
 refine Zm ?_
 refine Zk cf44 (writes_c (stateOf L line) _) ?_
 rintro v _ ⟨rfl, hw9⟩
 obtain rfl := hw9.symm
 intro a fr
 rw [hw] at fr
 revert a
 refine Zpf ?_
 refine Zpt ?_
 refine Za ?_
 refine Znn ?_
 refine Zct ?_
 refine Zsr ?_
 refine Za ?_
 refine Za ?_
 refine Znn ?_
 refine Zrt ?_
 refine Zr2 ?_
 refine Zr1 ?_
 refine Zre rfl [_, _] ⟨rfl, rfl, trivial⟩ ?_
 replace hF := hF.trNew hN4
 exact ⟨_, rfl, rfl, hF⟩
set_option maxRecDepth 100000 in
set_option maxHeartbeats 4000000 in
theorem ask_nw0n {w : World} {Fp : Nat → Prop} {b : Nat} {id : Int} {n : Nat} {ways : Int} {L : List Ln} (H : CacheAt w Fp b ⟨id, n, ways, L, none, none⟩) (line : Int) (hln : 0 ≤ line ∧ line < 4294967296) (pick : Int) (hs : ¬ stateOf L line ≠ 0) (hv : vicL n ways L line pick = none) : Calls Try.prog 13 #[.pointer (some ⟨b, 0, none⟩), .int .u32 line, .bool true, .int .i64 pick] w (Ret fun v w' => ∃ A' cap', v = .tuple #[.slice A' ([askM id line true hln]).length cap', .int .i64 0] ∧ Own msgE w' A' cap' ([askM id line true hln]) ∧ (∀ g, inA A' g → w.heap.size ≤ g) ∧ ∃ Fp', CacheAt w' Fp' b ⟨id, n, ways, L, (some (line, true)), none⟩ ∧ Only Fp w w' ∧ ∀ g, Fp' g → Fp g ∨ w.heap.size ≤ g) := by
 obtain ⟨lb, FpL, pa, pg, FpA, FpG, hB, hL, hA, hG, hP⟩ := H
 dsimp only at hB hL hA hG
 have ap_FpL_b := hP.lb
 obtain ⟨hn1, hn2, hw1, hw2⟩ := hL.bd
 have gA_FpL : ∀ g, FpL g → Fp g ∨ w.heap.size ≤ g := fun g hg => .inl ((hP.foot g).2 (.inr (.inl hg)))
 have hF := Only.refl (Fp) w
 refine Zen 91 Try.func13 ?_
 refine Zsr ?_
 refine Za ?_
 refine Za ?_
 refine Znn ?_
 refine Zsq ?_
 refine Zsr ?_
 refine Zm ?_
 refine Zk cf43 (cnone_c hB) ?_
 rintro v w9 ⟨rfl, hw9⟩
 obtain rfl := hw9.symm
 refine Znn ?_
 refine Zcf ?_
 refine Zsk ?_
 refine Znx ?_
 refine Zsr ?_
 refine Zm ?_
 refine Zm ?_
 refine Zk (args := #[.pointer (some ⟨b, 0, none⟩), .int .u32 line]) cf34 (state_c line (by omega) hB hL ap_FpL_b) ?_
 rintro v w3 ⟨rfl, hN4⟩
 refine Za ?_
 refine Znn ?_
 refine Zsq ?_
 refine Zbl ?_
 refine Zsq ?_
 replace hA := hA.new hN4
 obtain ⟨rfl, hA0⟩ := hA
 replace hG := hG.new hN4
 obtain ⟨rfl, hG0⟩ := hG
 refine Zrg ?_
 refine Zm ?_
 refine Zn ?_
 refine Zf fo83_2 ?_
 replace hB := hB.new hN4
 refine Zd pl80 (hB.cell 2 rfl) ?_
 refine Zv (.bool false) (fun _ fr => x_pneq Try.underlying80 rfl (fr.ev rfl) rfl rfl) ?_
 refine Zm ?_
 refine Zm ?_
 refine Zn ?_
 refine Zf fo83_3 ?_
 refine Zd pl81 (hB.cell 3 rfl) ?_
 refine Zv (.bool false) (fun _ fr => x_pneq Try.underlying81 rfl (fr.ev rfl) rfl rfl) ?_
 refine Zm ?_
 refine Zs ?_
 refine Zs ?_
 refine Zs ?_
 refine Zs ?_
 refine Zs ?_
 refine Zs ?_
 refine Zs ?_
 refine Zs ?_
 refine Zs ?_
 refine Zpf ?_
 refine Zpf ?_
 refine Za ?_
 refine Znn ?_
 refine Zcf ?_
 refine Zsr ?_
 refine Zm ?_
 refine Zv (.bool false) (fun _ fr => x_neq rfl (fr.ev rfl) rfl (decide_eq_false hs)) ?_
 refine Zm ?_
 refine Zs ?_
 refine Zs ?_
 refine Zs ?_
 refine Zs ?_
 refine Zs ?_
 refine Zs ?_
 refine Zpf ?_
 refine Za ?_
 refine Znn ?_
 refine Zcf ?_
 refine Zsk ?_
 refine Zb ?_
 refine Znx ?_
 refine Zsq ?_
 refine Zsr ?_
 refine Zm ?_
 refine Zn ?_
 refine Zf fo83_1 ?_
 refine Zd pl79 (hB.cell 1 rfl) ?_
 refine Zm ?_
 refine Zm ?_
 replace hL := hL.new hN4
 refine Zk (args := #[.pointer (some ⟨lb, 0, none⟩), .int .u32 line, .int .i64 pick]) cf45 (victim_c line (by omega) pick hL) ?_
 rintro v w5 ⟨rfl, hN6⟩
 intro a fr
 rw [hv] at fr
 simp only [Option.getD_none, Option.isSome_none] at fr
 revert a
 refine Zm ?_
 refine Zt ?_
 refine Zt ?_
 refine Zna (z := zv1) (cs := lnE.arr ln0) (by kernel_rfl) fun b7 w8 hN9 B10 hb11 => ?_
 replace hB := hB.new hN6
 have ne_b_b7 : NE b b7 := NE.mk (Nat.lt_of_lt_of_le hB.lt hb11)
 replace hL := hL.new hN6
 have ap_FpL_b7 : ¬ FpL b7 := hL.apart hb11
 replace hF := (hF.trNew hN4).trNew hN6
 have g_b7 := Nat.le_trans hF.size hb11
 refine ZsS sz39 (lnE.all _) B10 (lnE.size _) (lnE.size _) fun w12 hO13 hBq => ?_
 clear hBq
 refine Za ?_
 refine Znn ?_
 refine Zsr ?_
 refine Zm ?_
 refine Znn ?_
 refine Zcf ?_
 refine Zsk ?_
 refine Znx ?_
 refine Zsr ?_
 refine Zm ?_
 refine Zm ?_
 refine Zm ?_
 refine Zv (.agg (#[.int .u32 line, .bool true])) (fun a fr => x_build (cells := #[.int .u32 line, .bool true]) rfl (by simp only [List.map_toArray, List.map_cons, List.map_nil, show a.eval (.tmp 77) = .int .u32 line from fr.ev rfl, show a.eval (.tmp 78) = .bool true from fr.ev rfl]; kernel_rfl)) ?_
 refine Znb (cs := #[.int .u32 line, .bool true]) fun b14 w15 hN16 B17 hb18 => ?_
 replace hB := (hB.new hN9).only hO13 ne_b_b7
 have ne_b_b14 : NE b b14 := NE.mk (Nat.lt_of_lt_of_le hB.lt hb18)
 replace hL := (hL.new hN9).only hO13 (ne1P ap_FpL_b7)
 have ap_FpL_b14 : ¬ FpL b14 := hL.apart hb18
 replace hF := (hF.trNew hN9).loc hO13 (.inr g_b7)
 have g_b14 := Nat.le_trans hF.size hb18
 refine Zn ?_
 refine Zf fo83_2 ?_
 replace hB := hB.new hN16
 refine Zs1 (cs' := #[.int .i64 id, .pointer (some ⟨lb, 0, none⟩), .pointer (some ⟨b14, 0, none⟩), .pointer none]) sz80 hB (show 2 < 4 by decide) rfl fun w19 hO20 hBq => ?_
 replace hB := hBq
 clear hBq
 refine Znn ?_
 refine Zsr ?_
 refine Za ?_
 refine Znn ?_
 refine Zsq ?_
 refine Zsr ?_
 refine Zm ?_
 refine Znn ?_
 refine Zct ?_
 refine Zrg ?_
 refine Za ?_
 refine Znn ?_
 refine Zsr ?_
 refine Zm ?_
 refine Zm ?_
 refine Zm ?_
 refine Zm ?_
 refine Zk (args := #[.pointer (some ⟨b, 0, none⟩), .int .i64 2, .int .u32 line]) cf47 (msg_c hB 2 line (by omega)) ?_
 rintro v w21 ⟨rfl, hN22⟩
 intro a fr
 refine fx_build1 (E := msgE) (p := (mkM 2 id 4 line)) elMsg (by decide) fr rfl rfl (by decide) rfl (fr.ev rfl) ?_
 clear fr a
 intro A23 w24 hN25 O26 hA27
 intro a fr
 refine fx_append (E := msgE) (l := []) (l' := [(mkM 2 id 4 line)]) elMsg fr rfl rfl (by decide) rfl (fr.ev rfl) (fr.ev rfl) (by first | rfl | (simp; done) | (simp; omega)) (by first | rfl | (simp; done) | (simp; omega)) Own.nil O26.view (by first | omega | (simp only [List.length_append, List.length_cons, List.length_nil, List.nil_append]; omega)) (by first | (unfold maxLen; done) | (unfold maxLen; first | omega | (simp; done) | (simp; omega))) ?_
 clear fr a
 intro A28 cap29 w30 O31 hO32 mv33
 replace hF := (((hF.trNew hN16).loc hO20 (.inl ((hP.foot b).2 (.inl rfl)))).trNew hN22).trNew hN25
 have gN_A28 := fun g (hg : inA A28 g) => (mv33 g hg).elim (fun h => absurd h (apart_none g)) (fun h => Nat.le_trans hF.size h)
 replace hO32 := only_none hO32
 refine Za ?_
 refine Za ?_
 refine Znn ?_
 refine Zrt ?_
 refine Zre rfl [_, _] ⟨rfl, rfl, trivial⟩ ?_
 have gi_b14 : Fp b14 ∨ w.heap.size ≤ b14 := .inr g_b14
 replace hL := ((((hL.new hN16).only hO20 (ne1P ap_FpL_b)).new hN22).new hN25).new hO32
 replace B17 := (((B17.only hO20 ne_b_b14.symm).new hN22).new hN25).new hO32
 replace hB := ((hB.new hN22).new hN25).new hO32
 replace hF := hF.trNew hO32
 exact ⟨_, rfl, A28, cap29, rfl, O31, gN_A28, (fun k => k = b ∨ FpL k ∨ (fun k => k = b14) k ∨ (fun _ => False) k), ⟨lb, FpL, _, _, (fun k => k = b14), (fun _ => False), hB, hL, ⟨b14, rfl, B17, fun _ => Iff.rfl, hln⟩, ⟨rfl, fun _ h => h⟩, ⟨ap_FpL_b, (fun e => (show ¬ b = b14 from ne_b_b14) e), (fun h => h), (fun k hk e => ap_FpL_b14 (e ▸ hk)), (fun _ _ h => h), (fun _ _ h => h), fun _ => Iff.rfl⟩⟩, hF, (fun g hg => hg.elim (fun e => by rw [e]; exact .inl ((hP.foot b).2 (.inl rfl))) fun h => h.elim (gA_FpL g) fun h => h.elim (fun e => by rw [e]; exact gi_b14) (fun h => h.elim))⟩
set_option maxRecDepth 100000 in
set_option maxHeartbeats 4000000 in
theorem ask_sw0n {w : World} {Fp : Nat → Prop} {b : Nat} {id : Int} {n : Nat} {ways : Int} {L : List Ln} (H : CacheAt w Fp b ⟨id, n, ways, L, none, none⟩) (line : Int) (hln : 0 ≤ line ∧ line < 4294967296) (pick : Int) (hs : ¬ stateOf L line ≠ 0) (vx : Ln) (hv : vicL n ways L line pick = some vx) (hx : vx.state = 1) : Calls Try.prog 13 #[.pointer (some ⟨b, 0, none⟩), .int .u32 line, .bool true, .int .i64 pick] w (Ret fun v w' => ∃ A' cap', v = .tuple #[.slice A' ([askM id line true hln]).length cap', .int .i64 0] ∧ Own msgE w' A' cap' ([askM id line true hln]) ∧ (∀ g, inA A' g → w.heap.size ≤ g) ∧ ∃ Fp', CacheAt w' Fp' b ⟨id, n, ways, dropL L vx.num, (some (line, true)), none⟩ ∧ Only Fp w w' ∧ ∀ g, Fp' g → Fp g ∨ w.heap.size ≤ g) := by
 obtain ⟨lb, FpL, pa, pg, FpA, FpG, hB, hL, hA, hG, hP⟩ := H
 dsimp only at hB hL hA hG
 have ap_FpL_b := hP.lb
 obtain ⟨hn1, hn2, hw1, hw2⟩ := hL.bd
 have gA_FpL : ∀ g, FpL g → Fp g ∨ w.heap.size ≤ g := fun g hg => .inl ((hP.foot g).2 (.inr (.inl hg)))
 have hF := Only.refl (Fp) w
 refine Zen 91 Try.func13 ?_
 refine Zsr ?_
 refine Za ?_
 refine Za ?_
 refine Znn ?_
 refine Zsq ?_
 refine Zsr ?_
 refine Zm ?_
 refine Zk cf43 (cnone_c hB) ?_
 rintro v w9 ⟨rfl, hw9⟩
 obtain rfl := hw9.symm
 refine Znn ?_
 refine Zcf ?_
 refine Zsk ?_
 refine Znx ?_
 refine Zsr ?_
 refine Zm ?_
 refine Zm ?_
 refine Zk (args := #[.pointer (some ⟨b, 0, none⟩), .int .u32 line]) cf34 (state_c line (by omega) hB hL ap_FpL_b) ?_
 rintro v w3 ⟨rfl, hN4⟩
 refine Za ?_
 refine Znn ?_
 refine Zsq ?_
 refine Zbl ?_
 refine Zsq ?_
 replace hA := hA.new hN4
 obtain ⟨rfl, hA0⟩ := hA
 replace hG := hG.new hN4
 obtain ⟨rfl, hG0⟩ := hG
 refine Zrg ?_
 refine Zm ?_
 refine Zn ?_
 refine Zf fo83_2 ?_
 replace hB := hB.new hN4
 refine Zd pl80 (hB.cell 2 rfl) ?_
 refine Zv (.bool false) (fun _ fr => x_pneq Try.underlying80 rfl (fr.ev rfl) rfl rfl) ?_
 refine Zm ?_
 refine Zm ?_
 refine Zn ?_
 refine Zf fo83_3 ?_
 refine Zd pl81 (hB.cell 3 rfl) ?_
 refine Zv (.bool false) (fun _ fr => x_pneq Try.underlying81 rfl (fr.ev rfl) rfl rfl) ?_
 refine Zm ?_
 refine Zs ?_
 refine Zs ?_
 refine Zs ?_
 refine Zs ?_
 refine Zs ?_
 refine Zs ?_
 refine Zs ?_
 refine Zs ?_
 refine Zs ?_
 refine Zpf ?_
 refine Zpf ?_
 refine Za ?_
 refine Znn ?_
 refine Zcf ?_
 refine Zsr ?_
 refine Zm ?_
 refine Zv (.bool false) (fun _ fr => x_neq rfl (fr.ev rfl) rfl (decide_eq_false hs)) ?_
 refine Zm ?_
 refine Zs ?_
 refine Zs ?_
 refine Zs ?_
 refine Zs ?_
 refine Zs ?_
 refine Zs ?_
 refine Zpf ?_
 refine Za ?_
 refine Znn ?_
 refine Zcf ?_
 refine Zsk ?_
 refine Zb ?_
 refine Znx ?_
 refine Zsq ?_
 refine Zsr ?_
 refine Zm ?_
 refine Zn ?_
 refine Zf fo83_1 ?_
 refine Zd pl79 (hB.cell 1 rfl) ?_
 refine Zm ?_
 refine Zm ?_
 replace hL := hL.new hN4
 refine Zk (args := #[.pointer (some ⟨lb, 0, none⟩), .int .u32 line, .int .i64 pick]) cf45 (victim_c line (by omega) pick hL) ?_
 rintro v w5 ⟨rfl, hN6⟩
 intro a fr
 rw [hv] at fr
 simp only [Option.getD_some, Option.isSome_some] at fr
 revert a
 refine Zm ?_
 refine Zt ?_
 refine Zt ?_
 refine Zna (z := zv1) (cs := lnE.arr ln0) (by kernel_rfl) fun b7 w8 hN9 B10 hb11 => ?_
 replace hB := hB.new hN6
 have ne_b_b7 : NE b b7 := NE.mk (Nat.lt_of_lt_of_le hB.lt hb11)
 replace hL := hL.new hN6
 have ap_FpL_b7 : ¬ FpL b7 := hL.apart hb11
 replace hF := (hF.trNew hN4).trNew hN6
 have g_b7 := Nat.le_trans hF.size hb11
 refine ZsS sz39 (lnE.all _) B10 (lnE.size _) (lnE.size _) fun w12 hO13 hBq => ?_
 replace B10 := hBq
 clear hBq
 refine Za ?_
 refine Znn ?_
 refine Zsr ?_
 refine Zm ?_
 refine Znn ?_
 refine Zct ?_
 refine Zsr ?_
 refine Zm ?_
 refine ZE lnE ag39 (B10.rangeE lnE) ?_
 replace hB := (hB.new hN9).only hO13 ne_b_b7
 replace hL := (hL.new hN9).only hO13 (ne1P ap_FpL_b7)
 refine Zk cf46 (out_s hB hL ap_FpL_b vx hx) ?_
 rintro v w18 ⟨rfl, hB14, Fp15, H16, mv17, hN19⟩
 have ap_Fp15_b : ¬ Fp15 b := moved_apartP mv17 ap_FpL_b hB.lt
 replace hF := (hF.trNew hN9).loc hO13 (.inr g_b7)
 have gA_Fp15 := gA_movedP hF mv17 gA_FpL
 clear hL
 replace hB := hB14
 clear hB14
 refine Zm ?_
 refine Zt ?_
 refine Zt ?_
 refine Za ?_
 refine Za ?_
 refine Znn ?_
 refine Zsq ?_
 refine Zsr ?_
 refine Zm ?_
 refine Zv (.bool false) (fun _ fr => x_not rfl (fr.ev rfl) rfl) ?_
 refine Znn ?_
 refine Zcf ?_
 refine Zsk ?_
 refine Znx ?_
 refine Zrg ?_
 refine Zm ?_
 refine Za ?_
 refine Znn ?_
 refine Zsr ?_
 refine Zm ?_
 refine Zm ?_
 refine Zm ?_
 refine Zv (.agg (#[.int .u32 line, .bool true])) (fun a fr => x_build (cells := #[.int .u32 line, .bool true]) rfl (by simp only [List.map_toArray, List.map_cons, List.map_nil, show a.eval (.tmp 77) = .int .u32 line from fr.ev rfl, show a.eval (.tmp 78) = .bool true from fr.ev rfl]; kernel_rfl)) ?_
 refine Znb (cs := #[.int .u32 line, .bool true]) fun b20 w21 hN22 B23 hb24 => ?_
 have ne_b_b20 : NE b b20 := NE.mk (Nat.lt_of_lt_of_le hB.lt hb24)
 have ap_Fp15_b20 : ¬ Fp15 b20 := H16.apart hb24
 replace hF := hF.locS hN19 (fun i => (fun h => h.elim (fun e => by rw [e]; exact (.inl ((hP.foot b).2 (.inl rfl)))) (fun h => gA_FpL i h)))
 have g_b20 := Nat.le_trans hF.size hb24
 refine Zn ?_
 refine Zf fo83_2 ?_
 replace hB := hB.new hN22
 refine Zs1 (cs' := #[.int .i64 id, .pointer (some ⟨lb, 0, none⟩), .pointer (some ⟨b20, 0, none⟩), .pointer none]) sz80 hB (show 2 < 4 by decide) rfl fun w25 hO26 hBq => ?_
 replace hB := hBq
 clear hBq
 refine Znn ?_
 refine Zsr ?_
 refine Za ?_
 refine Znn ?_
 refine Zsq ?_
 refine Zsr ?_
 refine Zm ?_
 refine Znn ?_
 refine Zct ?_
 refine Zrg ?_
 refine Za ?_
 refine Znn ?_
 refine Zsr ?_
 refine Zm ?_
 refine Zm ?_
 refine Zm ?_
 refine Zm ?_
 refine Zk (args := #[.pointer (some ⟨b, 0, none⟩), .int .i64 2, .int .u32 line]) cf47 (msg_c hB 2 line (by omega)) ?_
 rintro v w27 ⟨rfl, hN28⟩
 intro a fr
 refine fx_build1 (E := msgE) (p := (mkM 2 id 4 line)) elMsg (by decide) fr rfl rfl (by decide) rfl (fr.ev rfl) ?_
 clear fr a
 intro A29 w30 hN31 O32 hA33
 intro a fr
 refine fx_append (E := msgE) (l := []) (l' := [(mkM 2 id 4 line)]) elMsg fr rfl rfl (by decide) rfl (fr.ev rfl) (fr.ev rfl) (by first | rfl | (simp; done) | (simp; omega)) (by first | rfl | (simp; done) | (simp; omega)) Own.nil O32.view (by first | omega | (simp only [List.length_append, List.length_cons, List.length_nil, List.nil_append]; omega)) (by first | (unfold maxLen; done) | (unfold maxLen; first | omega | (simp; done) | (simp; omega))) ?_
 clear fr a
 intro A34 cap35 w36 O37 hO38 mv39
 replace hF := (((hF.trNew hN22).loc hO26 (.inl ((hP.foot b).2 (.inl rfl)))).trNew hN28).trNew hN31
 have gN_A34 := fun g (hg : inA A34 g) => (mv39 g hg).elim (fun h => absurd h (apart_none g)) (fun h => Nat.le_trans hF.size h)
 replace hO38 := only_none hO38
 refine Za ?_
 refine Za ?_
 refine Znn ?_
 refine Zrt ?_
 refine Zre rfl [_, _] ⟨rfl, rfl, trivial⟩ ?_
 have gi_b20 : Fp b20 ∨ w.heap.size ≤ b20 := .inr g_b20
 replace H16 := ((((H16.new hN22).only hO26 (ne1P ap_Fp15_b)).new hN28).new hN31).new hO38
 replace B23 := (((B23.only hO26 ne_b_b20.symm).new hN28).new hN31).new hO38
 replace hB := ((hB.new hN28).new hN31).new hO38
 replace hF := hF.trNew hO38
 exact ⟨_, rfl, A34, cap35, rfl, O37, gN_A34, (fun k => k = b ∨ Fp15 k ∨ (fun k => k = b20) k ∨ (fun _ => False) k), ⟨lb, Fp15, _, _, (fun k => k = b20), (fun _ => False), hB, H16, ⟨b20, rfl, B23, fun _ => Iff.rfl, hln⟩, ⟨rfl, fun _ h => h⟩, ⟨ap_Fp15_b, (fun e => (show ¬ b = b20 from ne_b_b20) e), (fun h => h), (fun k hk e => ap_Fp15_b20 (e ▸ hk)), (fun _ _ h => h), (fun _ _ h => h), fun _ => Iff.rfl⟩⟩, hF, (fun g hg => hg.elim (fun e => by rw [e]; exact .inl ((hP.foot b).2 (.inl rfl))) fun h => h.elim (gA_Fp15 g) fun h => h.elim (fun e => by rw [e]; exact gi_b20) (fun h => h.elim))⟩
set_option maxRecDepth 100000 in
set_option maxHeartbeats 4000000 in
theorem ask_pw0n {w : World} {Fp : Nat → Prop} {b : Nat} {id : Int} {n : Nat} {ways : Int} {L : List Ln} (H : CacheAt w Fp b ⟨id, n, ways, L, none, none⟩) (line : Int) (hln : 0 ≤ line ∧ line < 4294967296) (pick : Int) (hs : ¬ stateOf L line ≠ 0) (vx : Ln) (hv : vicL n ways L line pick = some vx) (hx : ¬ vx.state = 1) : Calls Try.prog 13 #[.pointer (some ⟨b, 0, none⟩), .int .u32 line, .bool true, .int .i64 pick] w (Ret fun v w' => ∃ A' cap', v = .tuple #[.slice A' ([putM id vx] ++ [askM id line true hln]).length cap', .int .i64 0] ∧ Own msgE w' A' cap' ([putM id vx] ++ [askM id line true hln]) ∧ (∀ g, inA A' g → w.heap.size ≤ g) ∧ ∃ Fp', CacheAt w' Fp' b ⟨id, n, ways, dropL L vx.num, (some (line, true)), (some vx)⟩ ∧ Only Fp w w' ∧ ∀ g, Fp' g → Fp g ∨ w.heap.size ≤ g) := by
 obtain ⟨lb, FpL, pa, pg, FpA, FpG, hB, hL, hA, hG, hP⟩ := H
 dsimp only at hB hL hA hG
 have ap_FpL_b := hP.lb
 obtain ⟨hn1, hn2, hw1, hw2⟩ := hL.bd
 have gA_FpL : ∀ g, FpL g → Fp g ∨ w.heap.size ≤ g := fun g hg => .inl ((hP.foot g).2 (.inr (.inl hg)))
 have hF := Only.refl (Fp) w
 refine Zen 91 Try.func13 ?_
 refine Zsr ?_
 refine Za ?_
 refine Za ?_
 refine Znn ?_
 refine Zsq ?_
 refine Zsr ?_
 refine Zm ?_
 refine Zk cf43 (cnone_c hB) ?_
 rintro v w9 ⟨rfl, hw9⟩
 obtain rfl := hw9.symm
 refine Znn ?_
 refine Zcf ?_
 refine Zsk ?_
 refine Znx ?_
 refine Zsr ?_
 refine Zm ?_
 refine Zm ?_
 refine Zk (args := #[.pointer (some ⟨b, 0, none⟩), .int .u32 line]) cf34 (state_c line (by omega) hB hL ap_FpL_b) ?_
 rintro v w3 ⟨rfl, hN4⟩
 refine Za ?_
 refine Znn ?_
 refine Zsq ?_
 refine Zbl ?_
 refine Zsq ?_
 replace hA := hA.new hN4
 obtain ⟨rfl, hA0⟩ := hA
 replace hG := hG.new hN4
 obtain ⟨rfl, hG0⟩ := hG
 refine Zrg ?_
 refine Zm ?_
 refine Zn ?_
 refine Zf fo83_2 ?_
 replace hB := hB.new hN4
 refine Zd pl80 (hB.cell 2 rfl) ?_
 refine Zv (.bool false) (fun _ fr => x_pneq Try.underlying80 rfl (fr.ev rfl) rfl rfl) ?_
 refine Zm ?_
 refine Zm ?_
 refine Zn ?_
 refine Zf fo83_3 ?_
 refine Zd pl81 (hB.cell 3 rfl) ?_
 refine Zv (.bool false) (fun _ fr => x_pneq Try.underlying81 rfl (fr.ev rfl) rfl rfl) ?_
 refine Zm ?_
 refine Zs ?_
 refine Zs ?_
 refine Zs ?_
 refine Zs ?_
 refine Zs ?_
 refine Zs ?_
 refine Zs ?_
 refine Zs ?_
 refine Zs ?_
 refine Zpf ?_
 refine Zpf ?_
 refine Za ?_
 refine Znn ?_
 refine Zcf ?_
 refine Zsr ?_
 refine Zm ?_
 refine Zv (.bool false) (fun _ fr => x_neq rfl (fr.ev rfl) rfl (decide_eq_false hs)) ?_
 refine Zm ?_
 refine Zs ?_
 refine Zs ?_
 refine Zs ?_
 refine Zs ?_
 refine Zs ?_
 refine Zs ?_
 refine Zpf ?_
 refine Za ?_
 refine Znn ?_
 refine Zcf ?_
 refine Zsk ?_
 refine Zb ?_
 refine Znx ?_
 refine Zsq ?_
 refine Zsr ?_
 refine Zm ?_
 refine Zn ?_
 refine Zf fo83_1 ?_
 refine Zd pl79 (hB.cell 1 rfl) ?_
 refine Zm ?_
 refine Zm ?_
 replace hL := hL.new hN4
 refine Zk (args := #[.pointer (some ⟨lb, 0, none⟩), .int .u32 line, .int .i64 pick]) cf45 (victim_c line (by omega) pick hL) ?_
 rintro v w5 ⟨rfl, hN6⟩
 intro a fr
 rw [hv] at fr
 simp only [Option.getD_some, Option.isSome_some] at fr
 revert a
 refine Zm ?_
 refine Zt ?_
 refine Zt ?_
 refine Zna (z := zv1) (cs := lnE.arr ln0) (by kernel_rfl) fun b7 w8 hN9 B10 hb11 => ?_
 replace hB := hB.new hN6
 have ne_b_b7 : NE b b7 := NE.mk (Nat.lt_of_lt_of_le hB.lt hb11)
 replace hL := hL.new hN6
 have ap_FpL_b7 : ¬ FpL b7 := hL.apart hb11
 replace hF := (hF.trNew hN4).trNew hN6
 have g_b7 := Nat.le_trans hF.size hb11
 refine ZsS sz39 (lnE.all _) B10 (lnE.size _) (lnE.size _) fun w12 hO13 hBq => ?_
 replace B10 := hBq
 clear hBq
 refine Za ?_
 refine Znn ?_
 refine Zsr ?_
 refine Zm ?_
 refine Znn ?_
 refine Zct ?_
 refine Zsr ?_
 refine Zm ?_
 refine ZE lnE ag39 (B10.rangeE lnE) ?_
 replace hB := (hB.new hN9).only hO13 ne_b_b7
 replace hL := (hL.new hN9).only hO13 (ne1P ap_FpL_b7)
 refine Zk cf46 (out_n hB hL ap_FpL_b vx hx) ?_
 rintro v w25 ⟨A18, cap19, rfl, O20, hA21, b22, B23, hB14, hb24, Fp15, H16, mv17, ap_Fp15_b22, ap_A18_b22, ap2_Fp15_A18, hN26⟩
 have ap_Fp15_b : ¬ Fp15 b := moved_apartP mv17 ap_FpL_b hB.lt
 replace hF := (hF.trNew hN9).loc hO13 (.inr g_b7)
 have gA_Fp15 := gA_movedP hF mv17 gA_FpL
 have ne_b_b22 : NE b b22 := NE.mk (Nat.lt_of_lt_of_le hB.lt hb24)
 have g_b22 := Nat.le_trans hF.size hb24
 have ap_A18_b : Apart A18 b := new_apart hA21 hB.lt
 have gA_A18 := gA_new hF hA21
 have gN_A18 := fun g (hg : inA A18 g) => Nat.le_trans hF.size (hA21 g hg)
 clear hL
 replace hB := hB14
 clear hB14
 have gi_b22 : Fp b22 ∨ w.heap.size ≤ b22 := .inr g_b22
 refine Zm ?_
 refine Zt ?_
 refine Zt ?_
 refine Za ?_
 refine Za ?_
 refine Znn ?_
 refine Zsq ?_
 refine Zsr ?_
 refine Zm ?_
 refine Zv (.bool false) (fun _ fr => x_not rfl (fr.ev rfl) rfl) ?_
 refine Znn ?_
 refine Zcf ?_
 refine Zsk ?_
 refine Znx ?_
 refine Zrg ?_
 refine Zm ?_
 refine Za ?_
 refine Znn ?_
 refine Zsr ?_
 refine Zm ?_
 refine Zm ?_
 refine Zm ?_
 refine Zv (.agg (#[.int .u32 line, .bool true])) (fun a fr => x_build (cells := #[.int .u32 line, .bool true]) rfl (by simp only [List.map_toArray, List.map_cons, List.map_nil, show a.eval (.tmp 77) = .int .u32 line from fr.ev rfl, show a.eval (.tmp 78) = .bool true from fr.ev rfl]; kernel_rfl)) ?_
 refine Znb (cs := #[.int .u32 line, .bool true]) fun b27 w28 hN29 B30 hb31 => ?_
 have ne_b_b27 : NE b b27 := NE.mk (Nat.lt_of_lt_of_le hB.lt hb31)
 have ap_A18_b27 : Apart A18 b27 := O20.apart hb31
 have ne_b22_b27 : NE b22 b27 := NE.mk (Nat.lt_of_lt_of_le B23.lt hb31)
 have ap_Fp15_b27 : ¬ Fp15 b27 := H16.apart hb31
 replace hF := hF.locS hN26 (fun i => (fun h => h.elim (fun e => by rw [e]; exact (.inl ((hP.foot b).2 (.inl rfl)))) (fun h => gA_FpL i h)))
 have g_b27 := Nat.le_trans hF.size hb31
 refine Zn ?_
 refine Zf fo83_2 ?_
 replace hB := hB.new hN29
 refine Zs1 (cs' := #[.int .i64 id, .pointer (some ⟨lb, 0, none⟩), .pointer (some ⟨b27, 0, none⟩), .pointer (some ⟨b22, 0, none⟩)]) sz80 hB (show 2 < 4 by decide) rfl fun w32 hO33 hBq => ?_
 replace hB := hBq
 clear hBq
 refine Znn ?_
 refine Zsr ?_
 refine Za ?_
 refine Znn ?_
 refine Zsq ?_
 refine Zsr ?_
 refine Zm ?_
 refine Znn ?_
 refine Zct ?_
 refine Zrg ?_
 refine Za ?_
 refine Znn ?_
 refine Zsr ?_
 refine Zm ?_
 refine Zm ?_
 refine Zm ?_
 refine Zm ?_
 refine Zk (args := #[.pointer (some ⟨b, 0, none⟩), .int .i64 2, .int .u32 line]) cf47 (msg_c hB 2 line (by omega)) ?_
 rintro v w34 ⟨rfl, hN35⟩
 intro a fr
 refine fx_build1 (E := msgE) (p := (mkM 2 id 4 line)) elMsg (by decide) fr rfl rfl (by decide) rfl (fr.ev rfl) ?_
 clear fr a
 intro A36 w37 hN38 O39 hA40
 intro a fr
 replace O20 := (((O20.new hN29).only hO33 (Apart.ne1 ap_A18_b)).new hN35).new hN38
 refine fx_append (E := msgE) (l := [putM id vx]) (l' := [(mkM 2 id 4 line)]) elMsg fr rfl rfl (by decide) rfl (fr.ev rfl) (fr.ev rfl) (by first | rfl | (simp; done) | (simp; omega)) (by first | rfl | (simp; done) | (simp; omega)) O20 O39.view (by first | omega | (simp only [List.length_append, List.length_cons, List.length_nil, List.nil_append]; omega)) (by first | (unfold maxLen; done) | (unfold maxLen; first | omega | (simp; done) | (simp; omega))) ?_
 clear fr a
 intro A41 cap42 w43 O44 hO45 mv46
 replace hF := (((hF.trNew hN29).loc hO33 (.inl ((hP.foot b).2 (.inl rfl)))).trNew hN35).trNew hN38
 have gN_A41 := fun g (hg : inA A41 g) => (mv46 g hg).elim (gN_A18 g) (fun h => Nat.le_trans hF.size h)
 clear O20
 refine Za ?_
 refine Za ?_
 refine Znn ?_
 refine Zrt ?_
 refine Zre rfl [_, _] ⟨rfl, rfl, trivial⟩ ?_
 have gi_b27 : Fp b27 ∨ w.heap.size ≤ b27 := .inr g_b27
 replace B23 := ((((B23.new hN29).only hO33 ne_b_b22.symm).new hN35).new hN38).only hO45 ap_A18_b22
 replace H16 := ((((H16.new hN29).only hO33 (ne1P ap_Fp15_b)).new hN35).new hN38).only hO45 (fun g h1 h2 => ap2_Fp15_A18 g h1 h2)
 replace B30 := (((B30.only hO33 ne_b_b27.symm).new hN35).new hN38).only hO45 ap_A18_b27
 replace hB := ((hB.new hN35).new hN38).only hO45 ap_A18_b
 replace hF := hF.locA hO45 gA_A18
 exact ⟨_, rfl, A41, cap42, rfl, O44, gN_A41, (fun k => k = b ∨ Fp15 k ∨ (fun k => k = b27) k ∨ (fun k => k = b22) k), ⟨lb, Fp15, _, _, (fun k => k = b27), (fun k => k = b22), hB, H16, ⟨b27, rfl, B30, fun _ => Iff.rfl, hln⟩, ⟨b22, rfl, B23, fun _ => Iff.rfl⟩, ⟨ap_Fp15_b, (fun e => (show ¬ b = b27 from ne_b_b27) e), (fun e => (show ¬ b = b22 from ne_b_b22) e), (fun k hk e => ap_Fp15_b27 (e ▸ hk)), (fun k hk e => ap_Fp15_b22 (e ▸ hk)), (fun k e e2 => (show ¬ b27 = b22 from ne_b22_b27.symm) (e.symm.trans e2)), fun _ => Iff.rfl⟩⟩, hF, (fun g hg => hg.elim (fun e => by rw [e]; exact .inl ((hP.foot b).2 (.inl rfl))) fun h => h.elim (gA_Fp15 g) fun h => h.elim (fun e => by rw [e]; exact gi_b27) (fun e => by rw [e]; exact gi_b22))⟩
set_option maxRecDepth 100000 in
set_option maxHeartbeats 4000000 in
theorem ask_nw1n {w : World} {Fp : Nat → Prop} {b : Nat} {id : Int} {n : Nat} {ways : Int} {L : List Ln} (H : CacheAt w Fp b ⟨id, n, ways, L, none, none⟩) (line : Int) (hln : 0 ≤ line ∧ line < 4294967296) (pick : Int) (hs : stateOf L line ≠ 0) (hw : writesB (stateOf L line) = false) (hv : vicL n ways L line pick = none) : Calls Try.prog 13 #[.pointer (some ⟨b, 0, none⟩), .int .u32 line, .bool true, .int .i64 pick] w (Ret fun v w' => ∃ A' cap', v = .tuple #[.slice A' ([askM id line true hln]).length cap', .int .i64 0] ∧ Own msgE w' A' cap' ([askM id line true hln]) ∧ (∀ g, inA A' g → w.heap.size ≤ g) ∧ ∃ Fp', CacheAt w' Fp' b ⟨id, n, ways, L, (some (line, true)), none⟩ ∧ Only Fp w w' ∧ ∀ g, Fp' g → Fp g ∨ w.heap.size ≤ g) := by
 obtain ⟨lb, FpL, pa, pg, FpA, FpG, hB, hL, hA, hG, hP⟩ := H
 dsimp only at hB hL hA hG
 have ap_FpL_b := hP.lb
 obtain ⟨hn1, hn2, hw1, hw2⟩ := hL.bd
 have gA_FpL : ∀ g, FpL g → Fp g ∨ w.heap.size ≤ g := fun g hg => .inl ((hP.foot g).2 (.inr (.inl hg)))
 have hF := Only.refl (Fp) w
 refine Zen 91 Try.func13 ?_
 refine Zsr ?_
 refine Za ?_
 refine Za ?_
 refine Znn ?_
 refine Zsq ?_
 refine Zsr ?_
 refine Zm ?_
 refine Zk cf43 (cnone_c hB) ?_
 rintro v w9 ⟨rfl, hw9⟩
 obtain rfl := hw9.symm
 refine Znn ?_
 refine Zcf ?_
 refine Zsk ?_
 refine Znx ?_
 refine Zsr ?_
 refine Zm ?_
 refine Zm ?_
 refine Zk (args := #[.pointer (some ⟨b, 0, none⟩), .int .u32 line]) cf34 (state_c line (by omega) hB hL ap_FpL_b) ?_
 rintro v w3 ⟨rfl, hN4⟩
 refine Za ?_
 refine Znn ?_
 refine Zsq ?_
 refine Zbl ?_
 refine Zsq ?_
 replace hA := hA.new hN4
 obtain ⟨rfl, hA0⟩ := hA
 replace hG := hG.new hN4
 obtain ⟨rfl, hG0⟩ := hG
 refine Zrg ?_
 refine Zm ?_
 refine Zn ?_
 refine Zf fo83_2 ?_
 replace hB := hB.new hN4
 refine Zd pl80 (hB.cell 2 rfl) ?_
 refine Zv (.bool false) (fun _ fr => x_pneq Try.underlying80 rfl (fr.ev rfl) rfl rfl) ?_
 refine Zm ?_
 refine Zm ?_
 refine Zn ?_
 refine Zf fo83_3 ?_
 refine Zd pl81 (hB.cell 3 rfl) ?_
 refine Zv (.bool false) (fun _ fr => x_pneq Try.underlying81 rfl (fr.ev rfl) rfl rfl) ?_
 refine Zm ?_
 refine Zs ?_
 refine Zs ?_
 refine Zs ?_
 refine Zs ?_
 refine Zs ?_
 refine Zs ?_
 refine Zs ?_
 refine Zs ?_
 refine Zs ?_
 refine Zpf ?_
 refine Zpf ?_
 refine Za ?_
 refine Znn ?_
 refine Zcf ?_
 refine Zsr ?_
 refine Zm ?_
 refine Zv (.bool true) (fun _ fr => x_neq rfl (fr.ev rfl) rfl (decide_eq_true hs)) ?_
 refine Zm ?_
 refine Zm ?_
 refine Zv (.bool false) (fun _ fr => x_not rfl (fr.ev rfl) rfl) ?_
 refine Zm ?_
 refine Zm ?_
 refine Zk cf44 (writes_c (stateOf L line) _) ?_
 rintro v _ ⟨rfl, hw9⟩
 obtain rfl := hw9.symm
 intro a fr
 rw [hw] at fr
 revert a
 refine Zpf ?_
 refine Zpt ?_
 refine Za ?_
 refine Znn ?_
 refine Zcf ?_
 refine Zsk ?_
 refine Zb ?_
 refine Znx ?_
 refine Zsq ?_
 refine Zsr ?_
 refine Zm ?_
 refine Zn ?_
 refine Zf fo83_1 ?_
 refine Zd pl79 (hB.cell 1 rfl) ?_
 refine Zm ?_
 refine Zm ?_
 replace hL := hL.new hN4
 refine Zk (args := #[.pointer (some ⟨lb, 0, none⟩), .int .u32 line, .int .i64 pick]) cf45 (victim_c line (by omega) pick hL) ?_
 rintro v w7 ⟨rfl, hN8⟩
 intro a fr
 rw [hv] at fr
 simp only [Option.getD_none, Option.isSome_none] at fr
 revert a
 refine Zm ?_
 refine Zt ?_
 refine Zt ?_
 refine Zna (z := zv1) (cs := lnE.arr ln0) (by kernel_rfl) fun b9 w10 hN11 B12 hb13 => ?_
 replace hB := hB.new hN8
 have ne_b_b9 : NE b b9 := NE.mk (Nat.lt_of_lt_of_le hB.lt hb13)
 replace hL := hL.new hN8
 have ap_FpL_b9 : ¬ FpL b9 := hL.apart hb13
 replace hF := (hF.trNew hN4).trNew hN8
 have g_b9 := Nat.le_trans hF.size hb13
 refine ZsS sz39 (lnE.all _) B12 (lnE.size _) (lnE.size _) fun w14 hO15 hBq => ?_
 clear hBq
 refine Za ?_
 refine Znn ?_
 refine Zsr ?_
 refine Zm ?_
 refine Znn ?_
 refine Zcf ?_
 refine Zsk ?_
 refine Znx ?_
 refine Zsr ?_
 refine Zm ?_
 refine Zm ?_
 refine Zm ?_
 refine Zv (.agg (#[.int .u32 line, .bool true])) (fun a fr => x_build (cells := #[.int .u32 line, .bool true]) rfl (by simp only [List.map_toArray, List.map_cons, List.map_nil, show a.eval (.tmp 77) = .int .u32 line from fr.ev rfl, show a.eval (.tmp 78) = .bool true from fr.ev rfl]; kernel_rfl)) ?_
 refine Znb (cs := #[.int .u32 line, .bool true]) fun b16 w17 hN18 B19 hb20 => ?_
 replace hB := (hB.new hN11).only hO15 ne_b_b9
 have ne_b_b16 : NE b b16 := NE.mk (Nat.lt_of_lt_of_le hB.lt hb20)
 replace hL := (hL.new hN11).only hO15 (ne1P ap_FpL_b9)
 have ap_FpL_b16 : ¬ FpL b16 := hL.apart hb20
 replace hF := (hF.trNew hN11).loc hO15 (.inr g_b9)
 have g_b16 := Nat.le_trans hF.size hb20
 refine Zn ?_
 refine Zf fo83_2 ?_
 replace hB := hB.new hN18
 refine Zs1 (cs' := #[.int .i64 id, .pointer (some ⟨lb, 0, none⟩), .pointer (some ⟨b16, 0, none⟩), .pointer none]) sz80 hB (show 2 < 4 by decide) rfl fun w21 hO22 hBq => ?_
 replace hB := hBq
 clear hBq
 refine Znn ?_
 refine Zsr ?_
 refine Za ?_
 refine Znn ?_
 refine Zsq ?_
 refine Zsr ?_
 refine Zm ?_
 refine Znn ?_
 refine Zct ?_
 refine Zrg ?_
 refine Za ?_
 refine Znn ?_
 refine Zsr ?_
 refine Zm ?_
 refine Zm ?_
 refine Zm ?_
 refine Zm ?_
 refine Zk (args := #[.pointer (some ⟨b, 0, none⟩), .int .i64 2, .int .u32 line]) cf47 (msg_c hB 2 line (by omega)) ?_
 rintro v w23 ⟨rfl, hN24⟩
 intro a fr
 refine fx_build1 (E := msgE) (p := (mkM 2 id 4 line)) elMsg (by decide) fr rfl rfl (by decide) rfl (fr.ev rfl) ?_
 clear fr a
 intro A25 w26 hN27 O28 hA29
 intro a fr
 refine fx_append (E := msgE) (l := []) (l' := [(mkM 2 id 4 line)]) elMsg fr rfl rfl (by decide) rfl (fr.ev rfl) (fr.ev rfl) (by first | rfl | (simp; done) | (simp; omega)) (by first | rfl | (simp; done) | (simp; omega)) Own.nil O28.view (by first | omega | (simp only [List.length_append, List.length_cons, List.length_nil, List.nil_append]; omega)) (by first | (unfold maxLen; done) | (unfold maxLen; first | omega | (simp; done) | (simp; omega))) ?_
 clear fr a
 intro A30 cap31 w32 O33 hO34 mv35
 replace hF := (((hF.trNew hN18).loc hO22 (.inl ((hP.foot b).2 (.inl rfl)))).trNew hN24).trNew hN27
 have gN_A30 := fun g (hg : inA A30 g) => (mv35 g hg).elim (fun h => absurd h (apart_none g)) (fun h => Nat.le_trans hF.size h)
 replace hO34 := only_none hO34
 refine Za ?_
 refine Za ?_
 refine Znn ?_
 refine Zrt ?_
 refine Zre rfl [_, _] ⟨rfl, rfl, trivial⟩ ?_
 have gi_b16 : Fp b16 ∨ w.heap.size ≤ b16 := .inr g_b16
 replace hL := ((((hL.new hN18).only hO22 (ne1P ap_FpL_b)).new hN24).new hN27).new hO34
 replace B19 := (((B19.only hO22 ne_b_b16.symm).new hN24).new hN27).new hO34
 replace hB := ((hB.new hN24).new hN27).new hO34
 replace hF := hF.trNew hO34
 exact ⟨_, rfl, A30, cap31, rfl, O33, gN_A30, (fun k => k = b ∨ FpL k ∨ (fun k => k = b16) k ∨ (fun _ => False) k), ⟨lb, FpL, _, _, (fun k => k = b16), (fun _ => False), hB, hL, ⟨b16, rfl, B19, fun _ => Iff.rfl, hln⟩, ⟨rfl, fun _ h => h⟩, ⟨ap_FpL_b, (fun e => (show ¬ b = b16 from ne_b_b16) e), (fun h => h), (fun k hk e => ap_FpL_b16 (e ▸ hk)), (fun _ _ h => h), (fun _ _ h => h), fun _ => Iff.rfl⟩⟩, hF, (fun g hg => hg.elim (fun e => by rw [e]; exact .inl ((hP.foot b).2 (.inl rfl))) fun h => h.elim (gA_FpL g) fun h => h.elim (fun e => by rw [e]; exact gi_b16) (fun h => h.elim))⟩
set_option maxRecDepth 100000 in
set_option maxHeartbeats 4000000 in
theorem ask_sw1n {w : World} {Fp : Nat → Prop} {b : Nat} {id : Int} {n : Nat} {ways : Int} {L : List Ln} (H : CacheAt w Fp b ⟨id, n, ways, L, none, none⟩) (line : Int) (hln : 0 ≤ line ∧ line < 4294967296) (pick : Int) (hs : stateOf L line ≠ 0) (hw : writesB (stateOf L line) = false) (vx : Ln) (hv : vicL n ways L line pick = some vx) (hx : vx.state = 1) : Calls Try.prog 13 #[.pointer (some ⟨b, 0, none⟩), .int .u32 line, .bool true, .int .i64 pick] w (Ret fun v w' => ∃ A' cap', v = .tuple #[.slice A' ([askM id line true hln]).length cap', .int .i64 0] ∧ Own msgE w' A' cap' ([askM id line true hln]) ∧ (∀ g, inA A' g → w.heap.size ≤ g) ∧ ∃ Fp', CacheAt w' Fp' b ⟨id, n, ways, dropL L vx.num, (some (line, true)), none⟩ ∧ Only Fp w w' ∧ ∀ g, Fp' g → Fp g ∨ w.heap.size ≤ g) := by
 obtain ⟨lb, FpL, pa, pg, FpA, FpG, hB, hL, hA, hG, hP⟩ := H
 dsimp only at hB hL hA hG
 have ap_FpL_b := hP.lb
 obtain ⟨hn1, hn2, hw1, hw2⟩ := hL.bd
 have gA_FpL : ∀ g, FpL g → Fp g ∨ w.heap.size ≤ g := fun g hg => .inl ((hP.foot g).2 (.inr (.inl hg)))
 have hF := Only.refl (Fp) w
 refine Zen 91 Try.func13 ?_
 refine Zsr ?_
 refine Za ?_
 refine Za ?_
 refine Znn ?_
 refine Zsq ?_
 refine Zsr ?_
 refine Zm ?_
 refine Zk cf43 (cnone_c hB) ?_
 rintro v w9 ⟨rfl, hw9⟩
 obtain rfl := hw9.symm
 refine Znn ?_
 refine Zcf ?_
 refine Zsk ?_
 refine Znx ?_
 refine Zsr ?_
 refine Zm ?_
 refine Zm ?_
 refine Zk (args := #[.pointer (some ⟨b, 0, none⟩), .int .u32 line]) cf34 (state_c line (by omega) hB hL ap_FpL_b) ?_
 rintro v w3 ⟨rfl, hN4⟩
 refine Za ?_
 refine Znn ?_
 refine Zsq ?_
 refine Zbl ?_
 refine Zsq ?_
 replace hA := hA.new hN4
 obtain ⟨rfl, hA0⟩ := hA
 replace hG := hG.new hN4
 obtain ⟨rfl, hG0⟩ := hG
 refine Zrg ?_
 refine Zm ?_
 refine Zn ?_
 refine Zf fo83_2 ?_
 replace hB := hB.new hN4
 refine Zd pl80 (hB.cell 2 rfl) ?_
 refine Zv (.bool false) (fun _ fr => x_pneq Try.underlying80 rfl (fr.ev rfl) rfl rfl) ?_
 refine Zm ?_
 refine Zm ?_
 refine Zn ?_
 refine Zf fo83_3 ?_
 refine Zd pl81 (hB.cell 3 rfl) ?_
 refine Zv (.bool false) (fun _ fr => x_pneq Try.underlying81 rfl (fr.ev rfl) rfl rfl) ?_
 refine Zm ?_
 refine Zs ?_
 refine Zs ?_
 refine Zs ?_
 refine Zs ?_
 refine Zs ?_
 refine Zs ?_
 refine Zs ?_
 refine Zs ?_
 refine Zs ?_
 refine Zpf ?_
 refine Zpf ?_
 refine Za ?_
 refine Znn ?_
 refine Zcf ?_
 refine Zsr ?_
 refine Zm ?_
 refine Zv (.bool true) (fun _ fr => x_neq rfl (fr.ev rfl) rfl (decide_eq_true hs)) ?_
 refine Zm ?_
 refine Zm ?_
 refine Zv (.bool false) (fun _ fr => x_not rfl (fr.ev rfl) rfl) ?_
 refine Zm ?_
 refine Zm ?_
 refine Zk cf44 (writes_c (stateOf L line) _) ?_
 rintro v _ ⟨rfl, hw9⟩
 obtain rfl := hw9.symm
 intro a fr
 rw [hw] at fr
 revert a
 refine Zpf ?_
 refine Zpt ?_
 refine Za ?_
 refine Znn ?_
 refine Zcf ?_
 refine Zsk ?_
 refine Zb ?_
 refine Znx ?_
 refine Zsq ?_
 refine Zsr ?_
 refine Zm ?_
 refine Zn ?_
 refine Zf fo83_1 ?_
 refine Zd pl79 (hB.cell 1 rfl) ?_
 refine Zm ?_
 refine Zm ?_
 replace hL := hL.new hN4
 refine Zk (args := #[.pointer (some ⟨lb, 0, none⟩), .int .u32 line, .int .i64 pick]) cf45 (victim_c line (by omega) pick hL) ?_
 rintro v w7 ⟨rfl, hN8⟩
 intro a fr
 rw [hv] at fr
 simp only [Option.getD_some, Option.isSome_some] at fr
 revert a
 refine Zm ?_
 refine Zt ?_
 refine Zt ?_
 refine Zna (z := zv1) (cs := lnE.arr ln0) (by kernel_rfl) fun b9 w10 hN11 B12 hb13 => ?_
 replace hB := hB.new hN8
 have ne_b_b9 : NE b b9 := NE.mk (Nat.lt_of_lt_of_le hB.lt hb13)
 replace hL := hL.new hN8
 have ap_FpL_b9 : ¬ FpL b9 := hL.apart hb13
 replace hF := (hF.trNew hN4).trNew hN8
 have g_b9 := Nat.le_trans hF.size hb13
 refine ZsS sz39 (lnE.all _) B12 (lnE.size _) (lnE.size _) fun w14 hO15 hBq => ?_
 replace B12 := hBq
 clear hBq
 refine Za ?_
 refine Znn ?_
 refine Zsr ?_
 refine Zm ?_
 refine Znn ?_
 refine Zct ?_
 refine Zsr ?_
 refine Zm ?_
 refine ZE lnE ag39 (B12.rangeE lnE) ?_
 replace hB := (hB.new hN11).only hO15 ne_b_b9
 replace hL := (hL.new hN11).only hO15 (ne1P ap_FpL_b9)
 refine Zk cf46 (out_s hB hL ap_FpL_b vx hx) ?_
 rintro v w20 ⟨rfl, hB16, Fp17, H18, mv19, hN21⟩
 have ap_Fp17_b : ¬ Fp17 b := moved_apartP mv19 ap_FpL_b hB.lt
 replace hF := (hF.trNew hN11).loc hO15 (.inr g_b9)
 have gA_Fp17 := gA_movedP hF mv19 gA_FpL
 clear hL
 replace hB := hB16
 clear hB16
 refine Zm ?_
 refine Zt ?_
 refine Zt ?_
 refine Za ?_
 refine Za ?_
 refine Znn ?_
 refine Zsq ?_
 refine Zsr ?_
 refine Zm ?_
 refine Zv (.bool false) (fun _ fr => x_not rfl (fr.ev rfl) rfl) ?_
 refine Znn ?_
 refine Zcf ?_
 refine Zsk ?_
 refine Znx ?_
 refine Zrg ?_
 refine Zm ?_
 refine Za ?_
 refine Znn ?_
 refine Zsr ?_
 refine Zm ?_
 refine Zm ?_
 refine Zm ?_
 refine Zv (.agg (#[.int .u32 line, .bool true])) (fun a fr => x_build (cells := #[.int .u32 line, .bool true]) rfl (by simp only [List.map_toArray, List.map_cons, List.map_nil, show a.eval (.tmp 77) = .int .u32 line from fr.ev rfl, show a.eval (.tmp 78) = .bool true from fr.ev rfl]; kernel_rfl)) ?_
 refine Znb (cs := #[.int .u32 line, .bool true]) fun b22 w23 hN24 B25 hb26 => ?_
 have ne_b_b22 : NE b b22 := NE.mk (Nat.lt_of_lt_of_le hB.lt hb26)
 have ap_Fp17_b22 : ¬ Fp17 b22 := H18.apart hb26
 replace hF := hF.locS hN21 (fun i => (fun h => h.elim (fun e => by rw [e]; exact (.inl ((hP.foot b).2 (.inl rfl)))) (fun h => gA_FpL i h)))
 have g_b22 := Nat.le_trans hF.size hb26
 refine Zn ?_
 refine Zf fo83_2 ?_
 replace hB := hB.new hN24
 refine Zs1 (cs' := #[.int .i64 id, .pointer (some ⟨lb, 0, none⟩), .pointer (some ⟨b22, 0, none⟩), .pointer none]) sz80 hB (show 2 < 4 by decide) rfl fun w27 hO28 hBq => ?_
 replace hB := hBq
 clear hBq
 refine Znn ?_
 refine Zsr ?_
 refine Za ?_
 refine Znn ?_
 refine Zsq ?_
 refine Zsr ?_
 refine Zm ?_
 refine Znn ?_
 refine Zct ?_
 refine Zrg ?_
 refine Za ?_
 refine Znn ?_
 refine Zsr ?_
 refine Zm ?_
 refine Zm ?_
 refine Zm ?_
 refine Zm ?_
 refine Zk (args := #[.pointer (some ⟨b, 0, none⟩), .int .i64 2, .int .u32 line]) cf47 (msg_c hB 2 line (by omega)) ?_
 rintro v w29 ⟨rfl, hN30⟩
 intro a fr
 refine fx_build1 (E := msgE) (p := (mkM 2 id 4 line)) elMsg (by decide) fr rfl rfl (by decide) rfl (fr.ev rfl) ?_
 clear fr a
 intro A31 w32 hN33 O34 hA35
 intro a fr
 refine fx_append (E := msgE) (l := []) (l' := [(mkM 2 id 4 line)]) elMsg fr rfl rfl (by decide) rfl (fr.ev rfl) (fr.ev rfl) (by first | rfl | (simp; done) | (simp; omega)) (by first | rfl | (simp; done) | (simp; omega)) Own.nil O34.view (by first | omega | (simp only [List.length_append, List.length_cons, List.length_nil, List.nil_append]; omega)) (by first | (unfold maxLen; done) | (unfold maxLen; first | omega | (simp; done) | (simp; omega))) ?_
 clear fr a
 intro A36 cap37 w38 O39 hO40 mv41
 replace hF := (((hF.trNew hN24).loc hO28 (.inl ((hP.foot b).2 (.inl rfl)))).trNew hN30).trNew hN33
 have gN_A36 := fun g (hg : inA A36 g) => (mv41 g hg).elim (fun h => absurd h (apart_none g)) (fun h => Nat.le_trans hF.size h)
 replace hO40 := only_none hO40
 refine Za ?_
 refine Za ?_
 refine Znn ?_
 refine Zrt ?_
 refine Zre rfl [_, _] ⟨rfl, rfl, trivial⟩ ?_
 have gi_b22 : Fp b22 ∨ w.heap.size ≤ b22 := .inr g_b22
 replace H18 := ((((H18.new hN24).only hO28 (ne1P ap_Fp17_b)).new hN30).new hN33).new hO40
 replace B25 := (((B25.only hO28 ne_b_b22.symm).new hN30).new hN33).new hO40
 replace hB := ((hB.new hN30).new hN33).new hO40
 replace hF := hF.trNew hO40
 exact ⟨_, rfl, A36, cap37, rfl, O39, gN_A36, (fun k => k = b ∨ Fp17 k ∨ (fun k => k = b22) k ∨ (fun _ => False) k), ⟨lb, Fp17, _, _, (fun k => k = b22), (fun _ => False), hB, H18, ⟨b22, rfl, B25, fun _ => Iff.rfl, hln⟩, ⟨rfl, fun _ h => h⟩, ⟨ap_Fp17_b, (fun e => (show ¬ b = b22 from ne_b_b22) e), (fun h => h), (fun k hk e => ap_Fp17_b22 (e ▸ hk)), (fun _ _ h => h), (fun _ _ h => h), fun _ => Iff.rfl⟩⟩, hF, (fun g hg => hg.elim (fun e => by rw [e]; exact .inl ((hP.foot b).2 (.inl rfl))) fun h => h.elim (gA_Fp17 g) fun h => h.elim (fun e => by rw [e]; exact gi_b22) (fun h => h.elim))⟩
set_option maxRecDepth 100000 in
set_option maxHeartbeats 4000000 in
theorem ask_pw1n {w : World} {Fp : Nat → Prop} {b : Nat} {id : Int} {n : Nat} {ways : Int} {L : List Ln} (H : CacheAt w Fp b ⟨id, n, ways, L, none, none⟩) (line : Int) (hln : 0 ≤ line ∧ line < 4294967296) (pick : Int) (hs : stateOf L line ≠ 0) (hw : writesB (stateOf L line) = false) (vx : Ln) (hv : vicL n ways L line pick = some vx) (hx : ¬ vx.state = 1) : Calls Try.prog 13 #[.pointer (some ⟨b, 0, none⟩), .int .u32 line, .bool true, .int .i64 pick] w (Ret fun v w' => ∃ A' cap', v = .tuple #[.slice A' ([putM id vx] ++ [askM id line true hln]).length cap', .int .i64 0] ∧ Own msgE w' A' cap' ([putM id vx] ++ [askM id line true hln]) ∧ (∀ g, inA A' g → w.heap.size ≤ g) ∧ ∃ Fp', CacheAt w' Fp' b ⟨id, n, ways, dropL L vx.num, (some (line, true)), (some vx)⟩ ∧ Only Fp w w' ∧ ∀ g, Fp' g → Fp g ∨ w.heap.size ≤ g) := by
 obtain ⟨lb, FpL, pa, pg, FpA, FpG, hB, hL, hA, hG, hP⟩ := H
 dsimp only at hB hL hA hG
 have ap_FpL_b := hP.lb
 obtain ⟨hn1, hn2, hw1, hw2⟩ := hL.bd
 have gA_FpL : ∀ g, FpL g → Fp g ∨ w.heap.size ≤ g := fun g hg => .inl ((hP.foot g).2 (.inr (.inl hg)))
 have hF := Only.refl (Fp) w
 refine Zen 91 Try.func13 ?_
 refine Zsr ?_
 refine Za ?_
 refine Za ?_
 refine Znn ?_
 refine Zsq ?_
 refine Zsr ?_
 refine Zm ?_
 refine Zk cf43 (cnone_c hB) ?_
 rintro v w9 ⟨rfl, hw9⟩
 obtain rfl := hw9.symm
 refine Znn ?_
 refine Zcf ?_
 refine Zsk ?_
 refine Znx ?_
 refine Zsr ?_
 refine Zm ?_
 refine Zm ?_
 refine Zk (args := #[.pointer (some ⟨b, 0, none⟩), .int .u32 line]) cf34 (state_c line (by omega) hB hL ap_FpL_b) ?_
 rintro v w3 ⟨rfl, hN4⟩
 refine Za ?_
 refine Znn ?_
 refine Zsq ?_
 refine Zbl ?_
 refine Zsq ?_
 replace hA := hA.new hN4
 obtain ⟨rfl, hA0⟩ := hA
 replace hG := hG.new hN4
 obtain ⟨rfl, hG0⟩ := hG
 refine Zrg ?_
 refine Zm ?_
 refine Zn ?_
 refine Zf fo83_2 ?_
 replace hB := hB.new hN4
 refine Zd pl80 (hB.cell 2 rfl) ?_
 refine Zv (.bool false) (fun _ fr => x_pneq Try.underlying80 rfl (fr.ev rfl) rfl rfl) ?_
 refine Zm ?_
 refine Zm ?_
 refine Zn ?_
 refine Zf fo83_3 ?_
 refine Zd pl81 (hB.cell 3 rfl) ?_
 refine Zv (.bool false) (fun _ fr => x_pneq Try.underlying81 rfl (fr.ev rfl) rfl rfl) ?_
 refine Zm ?_
 refine Zs ?_
 refine Zs ?_
 refine Zs ?_
 refine Zs ?_
 refine Zs ?_
 refine Zs ?_
 refine Zs ?_
 refine Zs ?_
 refine Zs ?_
 refine Zpf ?_
 refine Zpf ?_
 refine Za ?_
 refine Znn ?_
 refine Zcf ?_
 refine Zsr ?_
 refine Zm ?_
 refine Zv (.bool true) (fun _ fr => x_neq rfl (fr.ev rfl) rfl (decide_eq_true hs)) ?_
 refine Zm ?_
 refine Zm ?_
 refine Zv (.bool false) (fun _ fr => x_not rfl (fr.ev rfl) rfl) ?_
 refine Zm ?_
 refine Zm ?_
 refine Zk cf44 (writes_c (stateOf L line) _) ?_
 rintro v _ ⟨rfl, hw9⟩
 obtain rfl := hw9.symm
 intro a fr
 rw [hw] at fr
 revert a
 refine Zpf ?_
 refine Zpt ?_
 refine Za ?_
 refine Znn ?_
 refine Zcf ?_
 refine Zsk ?_
 refine Zb ?_
 refine Znx ?_
 refine Zsq ?_
 refine Zsr ?_
 refine Zm ?_
 refine Zn ?_
 refine Zf fo83_1 ?_
 refine Zd pl79 (hB.cell 1 rfl) ?_
 refine Zm ?_
 refine Zm ?_
 replace hL := hL.new hN4
 refine Zk (args := #[.pointer (some ⟨lb, 0, none⟩), .int .u32 line, .int .i64 pick]) cf45 (victim_c line (by omega) pick hL) ?_
 rintro v w7 ⟨rfl, hN8⟩
 intro a fr
 rw [hv] at fr
 simp only [Option.getD_some, Option.isSome_some] at fr
 revert a
 refine Zm ?_
 refine Zt ?_
 refine Zt ?_
 refine Zna (z := zv1) (cs := lnE.arr ln0) (by kernel_rfl) fun b9 w10 hN11 B12 hb13 => ?_
 replace hB := hB.new hN8
 have ne_b_b9 : NE b b9 := NE.mk (Nat.lt_of_lt_of_le hB.lt hb13)
 replace hL := hL.new hN8
 have ap_FpL_b9 : ¬ FpL b9 := hL.apart hb13
 replace hF := (hF.trNew hN4).trNew hN8
 have g_b9 := Nat.le_trans hF.size hb13
 refine ZsS sz39 (lnE.all _) B12 (lnE.size _) (lnE.size _) fun w14 hO15 hBq => ?_
 replace B12 := hBq
 clear hBq
 refine Za ?_
 refine Znn ?_
 refine Zsr ?_
 refine Zm ?_
 refine Znn ?_
 refine Zct ?_
 refine Zsr ?_
 refine Zm ?_
 refine ZE lnE ag39 (B12.rangeE lnE) ?_
 replace hB := (hB.new hN11).only hO15 ne_b_b9
 replace hL := (hL.new hN11).only hO15 (ne1P ap_FpL_b9)
 refine Zk cf46 (out_n hB hL ap_FpL_b vx hx) ?_
 rintro v w27 ⟨A20, cap21, rfl, O22, hA23, b24, B25, hB16, hb26, Fp17, H18, mv19, ap_Fp17_b24, ap_A20_b24, ap2_Fp17_A20, hN28⟩
 have ap_Fp17_b : ¬ Fp17 b := moved_apartP mv19 ap_FpL_b hB.lt
 replace hF := (hF.trNew hN11).loc hO15 (.inr g_b9)
 have gA_Fp17 := gA_movedP hF mv19 gA_FpL
 have ne_b_b24 : NE b b24 := NE.mk (Nat.lt_of_lt_of_le hB.lt hb26)
 have g_b24 := Nat.le_trans hF.size hb26
 have ap_A20_b : Apart A20 b := new_apart hA23 hB.lt
 have gA_A20 := gA_new hF hA23
 have gN_A20 := fun g (hg : inA A20 g) => Nat.le_trans hF.size (hA23 g hg)
 clear hL
 replace hB := hB16
 clear hB16
 have gi_b24 : Fp b24 ∨ w.heap.size ≤ b24 := .inr g_b24
 refine Zm ?_
 refine Zt ?_
 refine Zt ?_
 refine Za ?_
 refine Za ?_
 refine Znn ?_
 refine Zsq ?_
 refine Zsr ?_
 refine Zm ?_
 refine Zv (.bool false) (fun _ fr => x_not rfl (fr.ev rfl) rfl) ?_
 refine Znn ?_
 refine Zcf ?_
 refine Zsk ?_
 refine Znx ?_
 refine Zrg ?_
 refine Zm ?_
 refine Za ?_
 refine Znn ?_
 refine Zsr ?_
 refine Zm ?_
 refine Zm ?_
 refine Zm ?_
 refine Zv (.agg (#[.int .u32 line, .bool true])) (fun a fr => x_build (cells := #[.int .u32 line, .bool true]) rfl (by simp only [List.map_toArray, List.map_cons, List.map_nil, show a.eval (.tmp 77) = .int .u32 line from fr.ev rfl, show a.eval (.tmp 78) = .bool true from fr.ev rfl]; kernel_rfl)) ?_
 refine Znb (cs := #[.int .u32 line, .bool true]) fun b29 w30 hN31 B32 hb33 => ?_
 have ne_b_b29 : NE b b29 := NE.mk (Nat.lt_of_lt_of_le hB.lt hb33)
 have ap_A20_b29 : Apart A20 b29 := O22.apart hb33
 have ne_b24_b29 : NE b24 b29 := NE.mk (Nat.lt_of_lt_of_le B25.lt hb33)
 have ap_Fp17_b29 : ¬ Fp17 b29 := H18.apart hb33
 replace hF := hF.locS hN28 (fun i => (fun h => h.elim (fun e => by rw [e]; exact (.inl ((hP.foot b).2 (.inl rfl)))) (fun h => gA_FpL i h)))
 have g_b29 := Nat.le_trans hF.size hb33
 refine Zn ?_
 refine Zf fo83_2 ?_
 replace hB := hB.new hN31
 refine Zs1 (cs' := #[.int .i64 id, .pointer (some ⟨lb, 0, none⟩), .pointer (some ⟨b29, 0, none⟩), .pointer (some ⟨b24, 0, none⟩)]) sz80 hB (show 2 < 4 by decide) rfl fun w34 hO35 hBq => ?_
 replace hB := hBq
 clear hBq
 refine Znn ?_
 refine Zsr ?_
 refine Za ?_
 refine Znn ?_
 refine Zsq ?_
 refine Zsr ?_
 refine Zm ?_
 refine Znn ?_
 refine Zct ?_
 refine Zrg ?_
 refine Za ?_
 refine Znn ?_
 refine Zsr ?_
 refine Zm ?_
 refine Zm ?_
 refine Zm ?_
 refine Zm ?_
 refine Zk (args := #[.pointer (some ⟨b, 0, none⟩), .int .i64 2, .int .u32 line]) cf47 (msg_c hB 2 line (by omega)) ?_
 rintro v w36 ⟨rfl, hN37⟩
 intro a fr
 refine fx_build1 (E := msgE) (p := (mkM 2 id 4 line)) elMsg (by decide) fr rfl rfl (by decide) rfl (fr.ev rfl) ?_
 clear fr a
 intro A38 w39 hN40 O41 hA42
 intro a fr
 replace O22 := (((O22.new hN31).only hO35 (Apart.ne1 ap_A20_b)).new hN37).new hN40
 refine fx_append (E := msgE) (l := [putM id vx]) (l' := [(mkM 2 id 4 line)]) elMsg fr rfl rfl (by decide) rfl (fr.ev rfl) (fr.ev rfl) (by first | rfl | (simp; done) | (simp; omega)) (by first | rfl | (simp; done) | (simp; omega)) O22 O41.view (by first | omega | (simp only [List.length_append, List.length_cons, List.length_nil, List.nil_append]; omega)) (by first | (unfold maxLen; done) | (unfold maxLen; first | omega | (simp; done) | (simp; omega))) ?_
 clear fr a
 intro A43 cap44 w45 O46 hO47 mv48
 replace hF := (((hF.trNew hN31).loc hO35 (.inl ((hP.foot b).2 (.inl rfl)))).trNew hN37).trNew hN40
 have gN_A43 := fun g (hg : inA A43 g) => (mv48 g hg).elim (gN_A20 g) (fun h => Nat.le_trans hF.size h)
 clear O22
 refine Za ?_
 refine Za ?_
 refine Znn ?_
 refine Zrt ?_
 refine Zre rfl [_, _] ⟨rfl, rfl, trivial⟩ ?_
 have gi_b29 : Fp b29 ∨ w.heap.size ≤ b29 := .inr g_b29
 replace B25 := ((((B25.new hN31).only hO35 ne_b_b24.symm).new hN37).new hN40).only hO47 ap_A20_b24
 replace H18 := ((((H18.new hN31).only hO35 (ne1P ap_Fp17_b)).new hN37).new hN40).only hO47 (fun g h1 h2 => ap2_Fp17_A20 g h1 h2)
 replace B32 := (((B32.only hO35 ne_b_b29.symm).new hN37).new hN40).only hO47 ap_A20_b29
 replace hB := ((hB.new hN37).new hN40).only hO47 ap_A20_b
 replace hF := hF.locA hO47 gA_A20
 exact ⟨_, rfl, A43, cap44, rfl, O46, gN_A43, (fun k => k = b ∨ Fp17 k ∨ (fun k => k = b29) k ∨ (fun k => k = b24) k), ⟨lb, Fp17, _, _, (fun k => k = b29), (fun k => k = b24), hB, H18, ⟨b29, rfl, B32, fun _ => Iff.rfl, hln⟩, ⟨b24, rfl, B25, fun _ => Iff.rfl⟩, ⟨ap_Fp17_b, (fun e => (show ¬ b = b29 from ne_b_b29) e), (fun e => (show ¬ b = b24 from ne_b_b24) e), (fun k hk e => ap_Fp17_b29 (e ▸ hk)), (fun k hk e => ap_Fp17_b24 (e ▸ hk)), (fun k e e2 => (show ¬ b29 = b24 from ne_b24_b29.symm) (e.symm.trans e2)), fun _ => Iff.rfl⟩⟩, hF, (fun g hg => hg.elim (fun e => by rw [e]; exact .inl ((hP.foot b).2 (.inl rfl))) fun h => h.elim (gA_Fp17 g) fun h => h.elim (fun e => by rw [e]; exact gi_b29) (fun e => by rw [e]; exact gi_b24))⟩
set_option maxRecDepth 100000 in
set_option maxHeartbeats 4000000 in
theorem ask_tws {w : World} {Fp : Nat → Prop} {b : Nat} {id : Int} {n : Nat} {ways : Int} {L : List Ln} {gx : Ln} (H : CacheAt w Fp b ⟨id, n, ways, L, none, (some gx)⟩) (line : Int) (hln : 0 ≤ line ∧ line < 4294967296) (pick : Int) (hg : ¬ gx.num = line) (hs : stateOf L line ≠ 0) (hw : writesB (stateOf L line) = true)  : Calls Try.prog 13 #[.pointer (some ⟨b, 0, none⟩), .int .u32 line, .bool true, .int .i64 pick] w (Ret fun v w' => v = .tuple #[.slice none 0 0, .int .i64 231] ∧ New w w') := by
 obtain ⟨lb, FpL, pa, pg, FpA, FpG, hB, hL, hA, hG, hP⟩ := H
 dsimp only at hB hL hA hG
 have ap_FpL_b := hP.lb
 obtain ⟨hn1, hn2, hw1, hw2⟩ := hL.bd
 have gA_FpG := fun g (hg : FpG g) => (Or.inl trivial : True ∨ w.heap.size ≤ g)
 have hF := Only.refl (fun _ => False) w
 refine Zen 91 Try.func13 ?_
 refine Zsr ?_
 refine Za ?_
 refine Za ?_
 refine Znn ?_
 refine Zsq ?_
 refine Zsr ?_
 refine Zm ?_
 refine Zk cf43 (cnone_c hB) ?_
 rintro v w9 ⟨rfl, hw9⟩
 obtain rfl := hw9.symm
 refine Znn ?_
 refine Zcf ?_
 refine Zsk ?_
 refine Znx ?_
 refine Zsr ?_
 refine Zm ?_
 refine Zm ?_
 refine Zk (args := #[.pointer (some ⟨b, 0, none⟩), .int .u32 line]) cf34 (state_c line (by omega) hB hL ap_FpL_b) ?_
 rintro v w3 ⟨rfl, hN4⟩
 refine Za ?_
 refine Znn ?_
 refine Zsq ?_
 refine Zbl ?_
 refine Zsq ?_
 replace hA := hA.new hN4
 obtain ⟨rfl, hA0⟩ := hA
 replace hG := hG.new hN4
 obtain ⟨bg, rfl, hGB, hGF⟩ := hG
 have gi_bg := gA_FpG bg ((hGF bg).2 rfl)
 refine Zrg ?_
 refine Zm ?_
 refine Zn ?_
 refine Zf fo83_2 ?_
 replace hB := hB.new hN4
 refine Zd pl80 (hB.cell 2 rfl) ?_
 refine Zv (.bool false) (fun _ fr => x_pneq Try.underlying80 rfl (fr.ev rfl) rfl rfl) ?_
 refine Zm ?_
 refine Zm ?_
 refine Zn ?_
 refine Zf fo83_3 ?_
 refine Zd pl81 (hB.cell 3 rfl) ?_
 refine Zv (.bool true) (fun _ fr => x_pneq Try.underlying81 rfl (fr.ev rfl) rfl rfl) ?_
 refine Zm ?_
 refine Zm ?_
 refine Zn ?_
 refine Zf fo83_3 ?_
 refine Zd pl81 (hB.cell 3 rfl) ?_
 refine Zn ?_
 refine Zf fo39_0 ?_
 refine Zd (v := .int .u32 gx.num) pl32 (hGB.cell 0 rfl) ?_
 refine Zm ?_
 refine Zv (.bool false) (fun _ fr => x_eql rfl (fr.ev rfl) (fr.ev rfl) (decide_eq_false hg)) ?_
 refine Zpt ?_
 refine Zpf ?_
 refine Za ?_
 refine Znn ?_
 refine Zcf ?_
 refine Zsr ?_
 refine Zm ?_
 refine Zv (.bool true) (fun _ fr => x_neq rfl (fr.ev rfl) rfl (decide_eq_true hs)) ?_
 refine Zm ?_
 refine Zm ?_
 refine Zv (.bool false) (fun _ fr => x_not rfl (fr.ev rfl) rfl) ?_
 refine Zm ?_
 refine Zm ?_
 refine Zk cf44 (writes_c (stateOf L line) _) ?_
 rintro v _ ⟨rfl, hw9⟩
 obtain rfl := hw9.symm
 intro a fr
 rw [hw] at fr
 revert a
 refine Zpf ?_
 refine Zpt ?_
 refine Za ?_
 refine Znn ?_
 refine Zct ?_
 refine Zsr ?_
 refine Za ?_
 refine Za ?_
 refine Znn ?_
 refine Zrt ?_
 refine Zr2 ?_
 refine Zr1 ?_
 refine Zre rfl [_, _] ⟨rfl, rfl, trivial⟩ ?_
 replace hF := hF.trNew hN4
 exact ⟨_, rfl, rfl, hF⟩
set_option maxRecDepth 100000 in
set_option maxHeartbeats 4000000 in
theorem ask_nw0s {w : World} {Fp : Nat → Prop} {b : Nat} {id : Int} {n : Nat} {ways : Int} {L : List Ln} {gx : Ln} (H : CacheAt w Fp b ⟨id, n, ways, L, none, (some gx)⟩) (line : Int) (hln : 0 ≤ line ∧ line < 4294967296) (pick : Int) (hg : ¬ gx.num = line) (hs : ¬ stateOf L line ≠ 0) (hv : vicL n ways L line pick = none) : Calls Try.prog 13 #[.pointer (some ⟨b, 0, none⟩), .int .u32 line, .bool true, .int .i64 pick] w (Ret fun v w' => ∃ A' cap', v = .tuple #[.slice A' ([askM id line true hln]).length cap', .int .i64 0] ∧ Own msgE w' A' cap' ([askM id line true hln]) ∧ (∀ g, inA A' g → w.heap.size ≤ g) ∧ ∃ Fp', CacheAt w' Fp' b ⟨id, n, ways, L, (some (line, true)), (some gx)⟩ ∧ Only Fp w w' ∧ ∀ g, Fp' g → Fp g ∨ w.heap.size ≤ g) := by
 obtain ⟨lb, FpL, pa, pg, FpA, FpG, hB, hL, hA, hG, hP⟩ := H
 dsimp only at hB hL hA hG
 have ap_FpL_b := hP.lb
 have ap_FpG_b := hP.gb
 have ap2_FpL_FpG := hP.lg
 obtain ⟨hn1, hn2, hw1, hw2⟩ := hL.bd
 have gA_FpL : ∀ g, FpL g → Fp g ∨ w.heap.size ≤ g := fun g hg => .inl ((hP.foot g).2 (.inr (.inl hg)))
 have gA_FpG : ∀ g, FpG g → Fp g ∨ w.heap.size ≤ g := fun g hg => .inl ((hP.foot g).2 (.inr (.inr (.inr hg))))
 have hF := Only.refl (Fp) w
 refine Zen 91 Try.func13 ?_
 refine Zsr ?_
 refine Za ?_
 refine Za ?_
 refine Znn ?_
 refine Zsq ?_
 refine Zsr ?_
 refine Zm ?_
 refine Zk cf43 (cnone_c hB) ?_
 rintro v w9 ⟨rfl, hw9⟩
 obtain rfl := hw9.symm
 refine Znn ?_
 refine Zcf ?_
 refine Zsk ?_
 refine Znx ?_
 refine Zsr ?_
 refine Zm ?_
 refine Zm ?_
 refine Zk (args := #[.pointer (some ⟨b, 0, none⟩), .int .u32 line]) cf34 (state_c line (by omega) hB hL ap_FpL_b) ?_
 rintro v w3 ⟨rfl, hN4⟩
 refine Za ?_
 refine Znn ?_
 refine Zsq ?_
 refine Zbl ?_
 refine Zsq ?_
 replace hA := hA.new hN4
 obtain ⟨rfl, hA0⟩ := hA
 replace hG := hG.new hN4
 obtain ⟨bg, rfl, hGB, hGF⟩ := hG
 have ne_bg_b : NE bg b := fun e => ap_FpG_b (e ▸ (hGF bg).2 rfl)
 have ap_FpL_bg : ¬ FpL bg := fun h => ap2_FpL_FpG bg h ((hGF bg).2 rfl)
 have gi_bg := gA_FpG bg ((hGF bg).2 rfl)
 refine Zrg ?_
 refine Zm ?_
 refine Zn ?_
 refine Zf fo83_2 ?_
 replace hB := hB.new hN4
 refine Zd pl80 (hB.cell 2 rfl) ?_
 refine Zv (.bool false) (fun _ fr => x_pneq Try.underlying80 rfl (fr.ev rfl) rfl rfl) ?_
 refine Zm ?_
 refine Zm ?_
 refine Zn ?_
 refine Zf fo83_3 ?_
 refine Zd pl81 (hB.cell 3 rfl) ?_
 refine Zv (.bool true) (fun _ fr => x_pneq Try.underlying81 rfl (fr.ev rfl) rfl rfl) ?_
 refine Zm ?_
 refine Zm ?_
 refine Zn ?_
 refine Zf fo83_3 ?_
 refine Zd pl81 (hB.cell 3 rfl) ?_
 refine Zn ?_
 refine Zf fo39_0 ?_
 refine Zd (v := .int .u32 gx.num) pl32 (hGB.cell 0 rfl) ?_
 refine Zm ?_
 refine Zv (.bool false) (fun _ fr => x_eql rfl (fr.ev rfl) (fr.ev rfl) (decide_eq_false hg)) ?_
 refine Zpt ?_
 refine Zpf ?_
 refine Za ?_
 refine Znn ?_
 refine Zcf ?_
 refine Zsr ?_
 refine Zm ?_
 refine Zv (.bool false) (fun _ fr => x_neq rfl (fr.ev rfl) rfl (decide_eq_false hs)) ?_
 refine Zm ?_
 refine Zs ?_
 refine Zs ?_
 refine Zs ?_
 refine Zs ?_
 refine Zs ?_
 refine Zs ?_
 refine Zpf ?_
 refine Za ?_
 refine Znn ?_
 refine Zcf ?_
 refine Zsk ?_
 refine Zb ?_
 refine Znx ?_
 refine Zsq ?_
 refine Zsr ?_
 refine Zm ?_
 refine Zn ?_
 refine Zf fo83_1 ?_
 refine Zd pl79 (hB.cell 1 rfl) ?_
 refine Zm ?_
 refine Zm ?_
 replace hL := hL.new hN4
 refine Zk (args := #[.pointer (some ⟨lb, 0, none⟩), .int .u32 line, .int .i64 pick]) cf45 (victim_c line (by omega) pick hL) ?_
 rintro v w5 ⟨rfl, hN6⟩
 intro a fr
 rw [hv] at fr
 simp only [Option.getD_none, Option.isSome_none] at fr
 revert a
 refine Zm ?_
 refine Zt ?_
 refine Zt ?_
 refine Zna (z := zv1) (cs := lnE.arr ln0) (by kernel_rfl) fun b7 w8 hN9 B10 hb11 => ?_
 replace hB := hB.new hN6
 have ne_b_b7 : NE b b7 := NE.mk (Nat.lt_of_lt_of_le hB.lt hb11)
 replace hL := hL.new hN6
 have ap_FpL_b7 : ¬ FpL b7 := hL.apart hb11
 replace hGB := hGB.new hN6
 have ne_bg_b7 : NE bg b7 := NE.mk (Nat.lt_of_lt_of_le hGB.lt hb11)
 replace hF := (hF.trNew hN4).trNew hN6
 have g_b7 := Nat.le_trans hF.size hb11
 refine ZsS sz39 (lnE.all _) B10 (lnE.size _) (lnE.size _) fun w12 hO13 hBq => ?_
 clear hBq
 refine Za ?_
 refine Znn ?_
 refine Zsr ?_
 refine Zm ?_
 refine Znn ?_
 refine Zcf ?_
 refine Zsk ?_
 refine Znx ?_
 refine Zsr ?_
 refine Zm ?_
 refine Zm ?_
 refine Zm ?_
 refine Zv (.agg (#[.int .u32 line, .bool true])) (fun a fr => x_build (cells := #[.int .u32 line, .bool true]) rfl (by simp only [List.map_toArray, List.map_cons, List.map_nil, show a.eval (.tmp 77) = .int .u32 line from fr.ev rfl, show a.eval (.tmp 78) = .bool true from fr.ev rfl]; kernel_rfl)) ?_
 refine Znb (cs := #[.int .u32 line, .bool true]) fun b14 w15 hN16 B17 hb18 => ?_
 replace hB := (hB.new hN9).only hO13 ne_b_b7
 have ne_b_b14 : NE b b14 := NE.mk (Nat.lt_of_lt_of_le hB.lt hb18)
 replace hL := (hL.new hN9).only hO13 (ne1P ap_FpL_b7)
 have ap_FpL_b14 : ¬ FpL b14 := hL.apart hb18
 replace hGB := (hGB.new hN9).only hO13 ne_bg_b7
 have ne_bg_b14 : NE bg b14 := NE.mk (Nat.lt_of_lt_of_le hGB.lt hb18)
 replace hF := (hF.trNew hN9).loc hO13 (.inr g_b7)
 have g_b14 := Nat.le_trans hF.size hb18
 refine Zn ?_
 refine Zf fo83_2 ?_
 replace hB := hB.new hN16
 refine Zs1 (cs' := #[.int .i64 id, .pointer (some ⟨lb, 0, none⟩), .pointer (some ⟨b14, 0, none⟩), .pointer (some ⟨bg, 0, none⟩)]) sz80 hB (show 2 < 4 by decide) rfl fun w19 hO20 hBq => ?_
 replace hB := hBq
 clear hBq
 refine Znn ?_
 refine Zsr ?_
 refine Za ?_
 refine Znn ?_
 refine Zsq ?_
 refine Zsr ?_
 refine Zm ?_
 refine Znn ?_
 refine Zct ?_
 refine Zrg ?_
 refine Za ?_
 refine Znn ?_
 refine Zsr ?_
 refine Zm ?_
 refine Zm ?_
 refine Zm ?_
 refine Zm ?_
 refine Zk (args := #[.pointer (some ⟨b, 0, none⟩), .int .i64 2, .int .u32 line]) cf47 (msg_c hB 2 line (by omega)) ?_
 rintro v w21 ⟨rfl, hN22⟩
 intro a fr
 refine fx_build1 (E := msgE) (p := (mkM 2 id 4 line)) elMsg (by decide) fr rfl rfl (by decide) rfl (fr.ev rfl) ?_
 clear fr a
 intro A23 w24 hN25 O26 hA27
 intro a fr
 refine fx_append (E := msgE) (l := []) (l' := [(mkM 2 id 4 line)]) elMsg fr rfl rfl (by decide) rfl (fr.ev rfl) (fr.ev rfl) (by first | rfl | (simp; done) | (simp; omega)) (by first | rfl | (simp; done) | (simp; omega)) Own.nil O26.view (by first | omega | (simp only [List.length_append, List.length_cons, List.length_nil, List.nil_append]; omega)) (by first | (unfold maxLen; done) | (unfold maxLen; first | omega | (simp; done) | (simp; omega))) ?_
 clear fr a
 intro A28 cap29 w30 O31 hO32 mv33
 replace hF := (((hF.trNew hN16).loc hO20 (.inl ((hP.foot b).2 (.inl rfl)))).trNew hN22).trNew hN25
 have gN_A28 := fun g (hg : inA A28 g) => (mv33 g hg).elim (fun h => absurd h (apart_none g)) (fun h => Nat.le_trans hF.size h)
 replace hO32 := only_none hO32
 refine Za ?_
 refine Za ?_
 refine Znn ?_
 refine Zrt ?_
 refine Zre rfl [_, _] ⟨rfl, rfl, trivial⟩ ?_
 have gi_b14 : Fp b14 ∨ w.heap.size ≤ b14 := .inr g_b14
 replace hL := ((((hL.new hN16).only hO20 (ne1P ap_FpL_b)).new hN22).new hN25).new hO32
 replace hGB := ((((hGB.new hN16).only hO20 ne_bg_b).new hN22).new hN25).new hO32
 replace B17 := (((B17.only hO20 ne_b_b14.symm).new hN22).new hN25).new hO32
 replace hB := ((hB.new hN22).new hN25).new hO32
 replace hF := hF.trNew hO32
 exact ⟨_, rfl, A28, cap29, rfl, O31, gN_A28, (fun k => k = b ∨ FpL k ∨ (fun k => k = b14) k ∨ (fun k => k = bg) k), ⟨lb, FpL, _, _, (fun k => k = b14), (fun k => k = bg), hB, hL, ⟨b14, rfl, B17, fun _ => Iff.rfl, hln⟩, ⟨bg, rfl, hGB, fun _ => Iff.rfl⟩, ⟨ap_FpL_b, (fun e => (show ¬ b = b14 from ne_b_b14) e), (fun e => (show ¬ b = bg from ne_bg_b.symm) e), (fun k hk e => ap_FpL_b14 (e ▸ hk)), (fun k hk e => ap_FpL_bg (e ▸ hk)), (fun k e e2 => (show ¬ b14 = bg from ne_bg_b14.symm) (e.symm.trans e2)), fun _ => Iff.rfl⟩⟩, hF, (fun g hg => hg.elim (fun e => by rw [e]; exact .inl ((hP.foot b).2 (.inl rfl))) fun h => h.elim (gA_FpL g) fun h => h.elim (fun e => by rw [e]; exact gi_b14) (fun e => by rw [e]; exact gi_bg))⟩
set_option maxRecDepth 100000 in
set_option maxHeartbeats 4000000 in
theorem ask_sw0s {w : World} {Fp : Nat → Prop} {b : Nat} {id : Int} {n : Nat} {ways : Int} {L : List Ln} {gx : Ln} (H : CacheAt w Fp b ⟨id, n, ways, L, none, (some gx)⟩) (line : Int) (hln : 0 ≤ line ∧ line < 4294967296) (pick : Int) (hg : ¬ gx.num = line) (hs : ¬ stateOf L line ≠ 0) (vx : Ln) (hv : vicL n ways L line pick = some vx) (hx : vx.state = 1) : Calls Try.prog 13 #[.pointer (some ⟨b, 0, none⟩), .int .u32 line, .bool true, .int .i64 pick] w (Ret fun v w' => ∃ A' cap', v = .tuple #[.slice A' ([askM id line true hln]).length cap', .int .i64 0] ∧ Own msgE w' A' cap' ([askM id line true hln]) ∧ (∀ g, inA A' g → w.heap.size ≤ g) ∧ ∃ Fp', CacheAt w' Fp' b ⟨id, n, ways, dropL L vx.num, (some (line, true)), (some gx)⟩ ∧ Only Fp w w' ∧ ∀ g, Fp' g → Fp g ∨ w.heap.size ≤ g) := by
 obtain ⟨lb, FpL, pa, pg, FpA, FpG, hB, hL, hA, hG, hP⟩ := H
 dsimp only at hB hL hA hG
 have ap_FpL_b := hP.lb
 have ap_FpG_b := hP.gb
 have ap2_FpL_FpG := hP.lg
 obtain ⟨hn1, hn2, hw1, hw2⟩ := hL.bd
 have gA_FpL : ∀ g, FpL g → Fp g ∨ w.heap.size ≤ g := fun g hg => .inl ((hP.foot g).2 (.inr (.inl hg)))
 have gA_FpG : ∀ g, FpG g → Fp g ∨ w.heap.size ≤ g := fun g hg => .inl ((hP.foot g).2 (.inr (.inr (.inr hg))))
 have hF := Only.refl (Fp) w
 refine Zen 91 Try.func13 ?_
 refine Zsr ?_
 refine Za ?_
 refine Za ?_
 refine Znn ?_
 refine Zsq ?_
 refine Zsr ?_
 refine Zm ?_
 refine Zk cf43 (cnone_c hB) ?_
 rintro v w9 ⟨rfl, hw9⟩
 obtain rfl := hw9.symm
 refine Znn ?_
 refine Zcf ?_
 refine Zsk ?_
 refine Znx ?_
 refine Zsr ?_
 refine Zm ?_
 refine Zm ?_
 refine Zk (args := #[.pointer (some ⟨b, 0, none⟩), .int .u32 line]) cf34 (state_c line (by omega) hB hL ap_FpL_b) ?_
 rintro v w3 ⟨rfl, hN4⟩
 refine Za ?_
 refine Znn ?_
 refine Zsq ?_
 refine Zbl ?_
 refine Zsq ?_
 replace hA := hA.new hN4
 obtain ⟨rfl, hA0⟩ := hA
 replace hG := hG.new hN4
 obtain ⟨bg, rfl, hGB, hGF⟩ := hG
 have ne_bg_b : NE bg b := fun e => ap_FpG_b (e ▸ (hGF bg).2 rfl)
 have ap_FpL_bg : ¬ FpL bg := fun h => ap2_FpL_FpG bg h ((hGF bg).2 rfl)
 have gi_bg := gA_FpG bg ((hGF bg).2 rfl)
 refine Zrg ?_
 refine Zm ?_
 refine Zn ?_
 refine Zf fo83_2 ?_
 replace hB := hB.new hN4
 refine Zd pl80 (hB.cell 2 rfl) ?_
 refine Zv (.bool false) (fun _ fr => x_pneq Try.underlying80 rfl (fr.ev rfl) rfl rfl) ?_
 refine Zm ?_
 refine Zm ?_
 refine Zn ?_
 refine Zf fo83_3 ?_
 refine Zd pl81 (hB.cell 3 rfl) ?_
 refine Zv (.bool true) (fun _ fr => x_pneq Try.underlying81 rfl (fr.ev rfl) rfl rfl) ?_
 refine Zm ?_
 refine Zm ?_
 refine Zn ?_
 refine Zf fo83_3 ?_
 refine Zd pl81 (hB.cell 3 rfl) ?_
 refine Zn ?_
 refine Zf fo39_0 ?_
 refine Zd (v := .int .u32 gx.num) pl32 (hGB.cell 0 rfl) ?_
 refine Zm ?_
 refine Zv (.bool false) (fun _ fr => x_eql rfl (fr.ev rfl) (fr.ev rfl) (decide_eq_false hg)) ?_
 refine Zpt ?_
 refine Zpf ?_
 refine Za ?_
 refine Znn ?_
 refine Zcf ?_
 refine Zsr ?_
 refine Zm ?_
 refine Zv (.bool false) (fun _ fr => x_neq rfl (fr.ev rfl) rfl (decide_eq_false hs)) ?_
 refine Zm ?_
 refine Zs ?_
 refine Zs ?_
 refine Zs ?_
 refine Zs ?_
 refine Zs ?_
 refine Zs ?_
 refine Zpf ?_
 refine Za ?_
 refine Znn ?_
 refine Zcf ?_
 refine Zsk ?_
 refine Zb ?_
 refine Znx ?_
 refine Zsq ?_
 refine Zsr ?_
 refine Zm ?_
 refine Zn ?_
 refine Zf fo83_1 ?_
 refine Zd pl79 (hB.cell 1 rfl) ?_
 refine Zm ?_
 refine Zm ?_
 replace hL := hL.new hN4
 refine Zk (args := #[.pointer (some ⟨lb, 0, none⟩), .int .u32 line, .int .i64 pick]) cf45 (victim_c line (by omega) pick hL) ?_
 rintro v w5 ⟨rfl, hN6⟩
 intro a fr
 rw [hv] at fr
 simp only [Option.getD_some, Option.isSome_some] at fr
 revert a
 refine Zm ?_
 refine Zt ?_
 refine Zt ?_
 refine Zna (z := zv1) (cs := lnE.arr ln0) (by kernel_rfl) fun b7 w8 hN9 B10 hb11 => ?_
 replace hB := hB.new hN6
 have ne_b_b7 : NE b b7 := NE.mk (Nat.lt_of_lt_of_le hB.lt hb11)
 replace hL := hL.new hN6
 have ap_FpL_b7 : ¬ FpL b7 := hL.apart hb11
 replace hGB := hGB.new hN6
 have ne_bg_b7 : NE bg b7 := NE.mk (Nat.lt_of_lt_of_le hGB.lt hb11)
 replace hF := (hF.trNew hN4).trNew hN6
 have g_b7 := Nat.le_trans hF.size hb11
 refine ZsS sz39 (lnE.all _) B10 (lnE.size _) (lnE.size _) fun w12 hO13 hBq => ?_
 replace B10 := hBq
 clear hBq
 refine Za ?_
 refine Znn ?_
 refine Zsr ?_
 refine Zm ?_
 refine Znn ?_
 refine Zct ?_
 refine Zsr ?_
 refine Zm ?_
 refine ZE lnE ag39 (B10.rangeE lnE) ?_
 replace hB := (hB.new hN9).only hO13 ne_b_b7
 replace hL := (hL.new hN9).only hO13 (ne1P ap_FpL_b7)
 refine Zk cf46 (out_s hB hL ap_FpL_b vx hx) ?_
 rintro v w18 ⟨rfl, hB14, Fp15, H16, mv17, hN19⟩
 have ap_Fp15_b : ¬ Fp15 b := moved_apartP mv17 ap_FpL_b hB.lt
 replace hGB := (hGB.new hN9).only hO13 ne_bg_b7
 have ap_Fp15_bg : ¬ Fp15 bg := moved_apartP mv17 ap_FpL_bg hGB.lt
 replace hF := (hF.trNew hN9).loc hO13 (.inr g_b7)
 have gA_Fp15 := gA_movedP hF mv17 gA_FpL
 clear hL
 replace hB := hB14
 clear hB14
 refine Zm ?_
 refine Zt ?_
 refine Zt ?_
 refine Za ?_
 refine Za ?_
 refine Znn ?_
 refine Zsq ?_
 refine Zsr ?_
 refine Zm ?_
 refine Zv (.bool false) (fun _ fr => x_not rfl (fr.ev rfl) rfl) ?_
 refine Znn ?_
 refine Zcf ?_
 refine Zsk ?_
 refine Znx ?_
 refine Zrg ?_
 refine Zm ?_
 refine Za ?_
 refine Znn ?_
 refine Zsr ?_
 refine Zm ?_
 refine Zm ?_
 refine Zm ?_
 refine Zv (.agg (#[.int .u32 line, .bool true])) (fun a fr => x_build (cells := #[.int .u32 line, .bool true]) rfl (by simp only [List.map_toArray, List.map_cons, List.map_nil, show a.eval (.tmp 77) = .int .u32 line from fr.ev rfl, show a.eval (.tmp 78) = .bool true from fr.ev rfl]; kernel_rfl)) ?_
 refine Znb (cs := #[.int .u32 line, .bool true]) fun b20 w21 hN22 B23 hb24 => ?_
 replace hGB := hGB.only hN19 (fun h => h.elim ne_bg_b ap_FpL_bg)
 have ne_bg_b20 : NE bg b20 := NE.mk (Nat.lt_of_lt_of_le hGB.lt hb24)
 have ne_b_b20 : NE b b20 := NE.mk (Nat.lt_of_lt_of_le hB.lt hb24)
 have ap_Fp15_b20 : ¬ Fp15 b20 := H16.apart hb24
 replace hF := hF.locS hN19 (fun i => (fun h => h.elim (fun e => by rw [e]; exact (.inl ((hP.foot b).2 (.inl rfl)))) (fun h => gA_FpL i h)))
 have g_b20 := Nat.le_trans hF.size hb24
 refine Zn ?_
 refine Zf fo83_2 ?_
 replace hB := hB.new hN22
 refine Zs1 (cs' := #[.int .i64 id, .pointer (some ⟨lb, 0, none⟩), .pointer (some ⟨b20, 0, none⟩), .pointer (some ⟨bg, 0, none⟩)]) sz80 hB (show 2 < 4 by decide) rfl fun w25 hO26 hBq => ?_
 replace hB := hBq
 clear hBq
 refine Znn ?_
 refine Zsr ?_
 refine Za ?_
 refine Znn ?_
 refine Zsq ?_
 refine Zsr ?_
 refine Zm ?_
 refine Znn ?_
 refine Zct ?_
 refine Zrg ?_
 refine Za ?_
 refine Znn ?_
 refine Zsr ?_
 refine Zm ?_
 refine Zm ?_
 refine Zm ?_
 refine Zm ?_
 refine Zk (args := #[.pointer (some ⟨b, 0, none⟩), .int .i64 2, .int .u32 line]) cf47 (msg_c hB 2 line (by omega)) ?_
 rintro v w27 ⟨rfl, hN28⟩
 intro a fr
 refine fx_build1 (E := msgE) (p := (mkM 2 id 4 line)) elMsg (by decide) fr rfl rfl (by decide) rfl (fr.ev rfl) ?_
 clear fr a
 intro A29 w30 hN31 O32 hA33
 intro a fr
 refine fx_append (E := msgE) (l := []) (l' := [(mkM 2 id 4 line)]) elMsg fr rfl rfl (by decide) rfl (fr.ev rfl) (fr.ev rfl) (by first | rfl | (simp; done) | (simp; omega)) (by first | rfl | (simp; done) | (simp; omega)) Own.nil O32.view (by first | omega | (simp only [List.length_append, List.length_cons, List.length_nil, List.nil_append]; omega)) (by first | (unfold maxLen; done) | (unfold maxLen; first | omega | (simp; done) | (simp; omega))) ?_
 clear fr a
 intro A34 cap35 w36 O37 hO38 mv39
 replace hF := (((hF.trNew hN22).loc hO26 (.inl ((hP.foot b).2 (.inl rfl)))).trNew hN28).trNew hN31
 have gN_A34 := fun g (hg : inA A34 g) => (mv39 g hg).elim (fun h => absurd h (apart_none g)) (fun h => Nat.le_trans hF.size h)
 replace hO38 := only_none hO38
 refine Za ?_
 refine Za ?_
 refine Znn ?_
 refine Zrt ?_
 refine Zre rfl [_, _] ⟨rfl, rfl, trivial⟩ ?_
 have gi_b20 : Fp b20 ∨ w.heap.size ≤ b20 := .inr g_b20
 replace hGB := ((((hGB.new hN22).only hO26 ne_bg_b).new hN28).new hN31).new hO38
 replace H16 := ((((H16.new hN22).only hO26 (ne1P ap_Fp15_b)).new hN28).new hN31).new hO38
 replace B23 := (((B23.only hO26 ne_b_b20.symm).new hN28).new hN31).new hO38
 replace hB := ((hB.new hN28).new hN31).new hO38
 replace hF := hF.trNew hO38
 exact ⟨_, rfl, A34, cap35, rfl, O37, gN_A34, (fun k => k = b ∨ Fp15 k ∨ (fun k => k = b20) k ∨ (fun k => k = bg) k), ⟨lb, Fp15, _, _, (fun k => k = b20), (fun k => k = bg), hB, H16, ⟨b20, rfl, B23, fun _ => Iff.rfl, hln⟩, ⟨bg, rfl, hGB, fun _ => Iff.rfl⟩, ⟨ap_Fp15_b, (fun e => (show ¬ b = b20 from ne_b_b20) e), (fun e => (show ¬ b = bg from ne_bg_b.symm) e), (fun k hk e => ap_Fp15_b20 (e ▸ hk)), (fun k hk e => ap_Fp15_bg (e ▸ hk)), (fun k e e2 => (show ¬ b20 = bg from ne_bg_b20.symm) (e.symm.trans e2)), fun _ => Iff.rfl⟩⟩, hF, (fun g hg => hg.elim (fun e => by rw [e]; exact .inl ((hP.foot b).2 (.inl rfl))) fun h => h.elim (gA_Fp15 g) fun h => h.elim (fun e => by rw [e]; exact gi_b20) (fun e => by rw [e]; exact gi_bg))⟩
set_option maxRecDepth 100000 in
set_option maxHeartbeats 4000000 in
theorem ask_bw0s {w : World} {Fp : Nat → Prop} {b : Nat} {id : Int} {n : Nat} {ways : Int} {L : List Ln} {gx : Ln} (H : CacheAt w Fp b ⟨id, n, ways, L, none, (some gx)⟩) (line : Int) (hln : 0 ≤ line ∧ line < 4294967296) (pick : Int) (hg : ¬ gx.num = line) (hs : ¬ stateOf L line ≠ 0) (vx : Ln) (hv : vicL n ways L line pick = some vx) (hx : ¬ vx.state = 1) : Calls Try.prog 13 #[.pointer (some ⟨b, 0, none⟩), .int .u32 line, .bool true, .int .i64 pick] w (Ret fun v w' => v = .tuple #[.slice none 0 0, .int .i64 230] ∧ New w w') := by
 obtain ⟨lb, FpL, pa, pg, FpA, FpG, hB, hL, hA, hG, hP⟩ := H
 dsimp only at hB hL hA hG
 have ap_FpL_b := hP.lb
 obtain ⟨hn1, hn2, hw1, hw2⟩ := hL.bd
 have gA_FpG := fun g (hg : FpG g) => (Or.inl trivial : True ∨ w.heap.size ≤ g)
 have hF := Only.refl (fun _ => False) w
 refine Zen 91 Try.func13 ?_
 refine Zsr ?_
 refine Za ?_
 refine Za ?_
 refine Znn ?_
 refine Zsq ?_
 refine Zsr ?_
 refine Zm ?_
 refine Zk cf43 (cnone_c hB) ?_
 rintro v w9 ⟨rfl, hw9⟩
 obtain rfl := hw9.symm
 refine Znn ?_
 refine Zcf ?_
 refine Zsk ?_
 refine Znx ?_
 refine Zsr ?_
 refine Zm ?_
 refine Zm ?_
 refine Zk (args := #[.pointer (some ⟨b, 0, none⟩), .int .u32 line]) cf34 (state_c line (by omega) hB hL ap_FpL_b) ?_
 rintro v w3 ⟨rfl, hN4⟩
 refine Za ?_
 refine Znn ?_
 refine Zsq ?_
 refine Zbl ?_
 refine Zsq ?_
 replace hA := hA.new hN4
 obtain ⟨rfl, hA0⟩ := hA
 replace hG := hG.new hN4
 obtain ⟨bg, rfl, hGB, hGF⟩ := hG
 have gi_bg := gA_FpG bg ((hGF bg).2 rfl)
 refine Zrg ?_
 refine Zm ?_
 refine Zn ?_
 refine Zf fo83_2 ?_
 replace hB := hB.new hN4
 refine Zd pl80 (hB.cell 2 rfl) ?_
 refine Zv (.bool false) (fun _ fr => x_pneq Try.underlying80 rfl (fr.ev rfl) rfl rfl) ?_
 refine Zm ?_
 refine Zm ?_
 refine Zn ?_
 refine Zf fo83_3 ?_
 refine Zd pl81 (hB.cell 3 rfl) ?_
 refine Zv (.bool true) (fun _ fr => x_pneq Try.underlying81 rfl (fr.ev rfl) rfl rfl) ?_
 refine Zm ?_
 refine Zm ?_
 refine Zn ?_
 refine Zf fo83_3 ?_
 refine Zd pl81 (hB.cell 3 rfl) ?_
 refine Zn ?_
 refine Zf fo39_0 ?_
 refine Zd (v := .int .u32 gx.num) pl32 (hGB.cell 0 rfl) ?_
 refine Zm ?_
 refine Zv (.bool false) (fun _ fr => x_eql rfl (fr.ev rfl) (fr.ev rfl) (decide_eq_false hg)) ?_
 refine Zpt ?_
 refine Zpf ?_
 refine Za ?_
 refine Znn ?_
 refine Zcf ?_
 refine Zsr ?_
 refine Zm ?_
 refine Zv (.bool false) (fun _ fr => x_neq rfl (fr.ev rfl) rfl (decide_eq_false hs)) ?_
 refine Zm ?_
 refine Zs ?_
 refine Zs ?_
 refine Zs ?_
 refine Zs ?_
 refine Zs ?_
 refine Zs ?_
 refine Zpf ?_
 refine Za ?_
 refine Znn ?_
 refine Zcf ?_
 refine Zsk ?_
 refine Zb ?_
 refine Znx ?_
 refine Zsq ?_
 refine Zsr ?_
 refine Zm ?_
 refine Zn ?_
 refine Zf fo83_1 ?_
 refine Zd pl79 (hB.cell 1 rfl) ?_
 refine Zm ?_
 refine Zm ?_
 replace hL := hL.new hN4
 refine Zk (args := #[.pointer (some ⟨lb, 0, none⟩), .int .u32 line, .int .i64 pick]) cf45 (victim_c line (by omega) pick hL) ?_
 rintro v w5 ⟨rfl, hN6⟩
 intro a fr
 rw [hv] at fr
 simp only [Option.getD_some, Option.isSome_some] at fr
 revert a
 refine Zm ?_
 refine Zt ?_
 refine Zt ?_
 refine Zna (z := zv1) (cs := lnE.arr ln0) (by kernel_rfl) fun b7 w8 hN9 B10 hb11 => ?_
 replace hB := hB.new hN6
 have ne_b_b7 : NE b b7 := NE.mk (Nat.lt_of_lt_of_le hB.lt hb11)
 replace hL := hL.new hN6
 have ap_FpL_b7 : ¬ FpL b7 := hL.apart hb11
 replace hF := (hF.trNew hN4).trNew hN6
 have g_b7 := Nat.le_trans hF.size hb11
 refine ZsS sz39 (lnE.all _) B10 (lnE.size _) (lnE.size _) fun w12 hO13 hBq => ?_
 replace B10 := hBq
 clear hBq
 refine Za ?_
 refine Znn ?_
 refine Zsr ?_
 refine Zm ?_
 refine Znn ?_
 refine Zct ?_
 refine Zsr ?_
 refine Zm ?_
 refine ZE lnE ag39 (B10.rangeE lnE) ?_
 replace hB := (hB.new hN9).only hO13 ne_b_b7
 replace hL := (hL.new hN9).only hO13 (ne1P ap_FpL_b7)
 refine Zk cf46 (out_b hB hL ap_FpL_b vx hx) ?_
 rintro v w14 ⟨rfl, hN15⟩
 refine Zm ?_
 refine Zt ?_
 refine Zt ?_
 refine Za ?_
 refine Za ?_
 refine Znn ?_
 refine Zsq ?_
 refine Zsr ?_
 refine Zm ?_
 refine Zv (.bool true) (fun _ fr => x_not rfl (fr.ev rfl) rfl) ?_
 refine Znn ?_
 refine Zct ?_
 refine Zsr ?_
 refine Za ?_
 refine Za ?_
 refine Znn ?_
 refine Zrt ?_
 refine Zr1 ?_
 refine Zr1 ?_
 refine Zre rfl [_, _] ⟨rfl, rfl, trivial⟩ ?_
 replace hF := ((hF.trNew hN9).loc hO13 (.inr g_b7)).trNew hN15
 exact ⟨_, rfl, rfl, hF⟩
set_option maxRecDepth 100000 in
set_option maxHeartbeats 4000000 in
theorem ask_nw1s {w : World} {Fp : Nat → Prop} {b : Nat} {id : Int} {n : Nat} {ways : Int} {L : List Ln} {gx : Ln} (H : CacheAt w Fp b ⟨id, n, ways, L, none, (some gx)⟩) (line : Int) (hln : 0 ≤ line ∧ line < 4294967296) (pick : Int) (hg : ¬ gx.num = line) (hs : stateOf L line ≠ 0) (hw : writesB (stateOf L line) = false) (hv : vicL n ways L line pick = none) : Calls Try.prog 13 #[.pointer (some ⟨b, 0, none⟩), .int .u32 line, .bool true, .int .i64 pick] w (Ret fun v w' => ∃ A' cap', v = .tuple #[.slice A' ([askM id line true hln]).length cap', .int .i64 0] ∧ Own msgE w' A' cap' ([askM id line true hln]) ∧ (∀ g, inA A' g → w.heap.size ≤ g) ∧ ∃ Fp', CacheAt w' Fp' b ⟨id, n, ways, L, (some (line, true)), (some gx)⟩ ∧ Only Fp w w' ∧ ∀ g, Fp' g → Fp g ∨ w.heap.size ≤ g) := by
 obtain ⟨lb, FpL, pa, pg, FpA, FpG, hB, hL, hA, hG, hP⟩ := H
 dsimp only at hB hL hA hG
 have ap_FpL_b := hP.lb
 have ap_FpG_b := hP.gb
 have ap2_FpL_FpG := hP.lg
 obtain ⟨hn1, hn2, hw1, hw2⟩ := hL.bd
 have gA_FpL : ∀ g, FpL g → Fp g ∨ w.heap.size ≤ g := fun g hg => .inl ((hP.foot g).2 (.inr (.inl hg)))
 have gA_FpG : ∀ g, FpG g → Fp g ∨ w.heap.size ≤ g := fun g hg => .inl ((hP.foot g).2 (.inr (.inr (.inr hg))))
 have hF := Only.refl (Fp) w
 refine Zen 91 Try.func13 ?_
 refine Zsr ?_
 refine Za ?_
 refine Za ?_
 refine Znn ?_
 refine Zsq ?_
 refine Zsr ?_
 refine Zm ?_
 refine Zk cf43 (cnone_c hB) ?_
 rintro v w9 ⟨rfl, hw9⟩
 obtain rfl := hw9.symm
 refine Znn ?_
 refine Zcf ?_
 refine Zsk ?_
 refine Znx ?_
 refine Zsr ?_
 refine Zm ?_
 refine Zm ?_
 refine Zk (args := #[.pointer (some ⟨b, 0, none⟩), .int .u32 line]) cf34 (state_c line (by omega) hB hL ap_FpL_b) ?_
 rintro v w3 ⟨rfl, hN4⟩
 refine Za ?_
 refine Znn ?_
 refine Zsq ?_
 refine Zbl ?_
 refine Zsq ?_
 replace hA := hA.new hN4
 obtain ⟨rfl, hA0⟩ := hA
 replace hG := hG.new hN4
 obtain ⟨bg, rfl, hGB, hGF⟩ := hG
 have ne_bg_b : NE bg b := fun e => ap_FpG_b (e ▸ (hGF bg).2 rfl)
 have ap_FpL_bg : ¬ FpL bg := fun h => ap2_FpL_FpG bg h ((hGF bg).2 rfl)
 have gi_bg := gA_FpG bg ((hGF bg).2 rfl)
 refine Zrg ?_
 refine Zm ?_
 refine Zn ?_
 refine Zf fo83_2 ?_
 replace hB := hB.new hN4
 refine Zd pl80 (hB.cell 2 rfl) ?_
 refine Zv (.bool false) (fun _ fr => x_pneq Try.underlying80 rfl (fr.ev rfl) rfl rfl) ?_
 refine Zm ?_
 refine Zm ?_
 refine Zn ?_
 refine Zf fo83_3 ?_
 refine Zd pl81 (hB.cell 3 rfl) ?_
 refine Zv (.bool true) (fun _ fr => x_pneq Try.underlying81 rfl (fr.ev rfl) rfl rfl) ?_
 refine Zm ?_
 refine Zm ?_
 refine Zn ?_
 refine Zf fo83_3 ?_
 refine Zd pl81 (hB.cell 3 rfl) ?_
 refine Zn ?_
 refine Zf fo39_0 ?_
 refine Zd (v := .int .u32 gx.num) pl32 (hGB.cell 0 rfl) ?_
 refine Zm ?_
 refine Zv (.bool false) (fun _ fr => x_eql rfl (fr.ev rfl) (fr.ev rfl) (decide_eq_false hg)) ?_
 refine Zpt ?_
 refine Zpf ?_
 refine Za ?_
 refine Znn ?_
 refine Zcf ?_
 refine Zsr ?_
 refine Zm ?_
 refine Zv (.bool true) (fun _ fr => x_neq rfl (fr.ev rfl) rfl (decide_eq_true hs)) ?_
 refine Zm ?_
 refine Zm ?_
 refine Zv (.bool false) (fun _ fr => x_not rfl (fr.ev rfl) rfl) ?_
 refine Zm ?_
 refine Zm ?_
 refine Zk cf44 (writes_c (stateOf L line) _) ?_
 rintro v _ ⟨rfl, hw9⟩
 obtain rfl := hw9.symm
 intro a fr
 rw [hw] at fr
 revert a
 refine Zpf ?_
 refine Zpt ?_
 refine Za ?_
 refine Znn ?_
 refine Zcf ?_
 refine Zsk ?_
 refine Zb ?_
 refine Znx ?_
 refine Zsq ?_
 refine Zsr ?_
 refine Zm ?_
 refine Zn ?_
 refine Zf fo83_1 ?_
 refine Zd pl79 (hB.cell 1 rfl) ?_
 refine Zm ?_
 refine Zm ?_
 replace hL := hL.new hN4
 refine Zk (args := #[.pointer (some ⟨lb, 0, none⟩), .int .u32 line, .int .i64 pick]) cf45 (victim_c line (by omega) pick hL) ?_
 rintro v w7 ⟨rfl, hN8⟩
 intro a fr
 rw [hv] at fr
 simp only [Option.getD_none, Option.isSome_none] at fr
 revert a
 refine Zm ?_
 refine Zt ?_
 refine Zt ?_
 refine Zna (z := zv1) (cs := lnE.arr ln0) (by kernel_rfl) fun b9 w10 hN11 B12 hb13 => ?_
 replace hB := hB.new hN8
 have ne_b_b9 : NE b b9 := NE.mk (Nat.lt_of_lt_of_le hB.lt hb13)
 replace hL := hL.new hN8
 have ap_FpL_b9 : ¬ FpL b9 := hL.apart hb13
 replace hGB := hGB.new hN8
 have ne_bg_b9 : NE bg b9 := NE.mk (Nat.lt_of_lt_of_le hGB.lt hb13)
 replace hF := (hF.trNew hN4).trNew hN8
 have g_b9 := Nat.le_trans hF.size hb13
 refine ZsS sz39 (lnE.all _) B12 (lnE.size _) (lnE.size _) fun w14 hO15 hBq => ?_
 clear hBq
 refine Za ?_
 refine Znn ?_
 refine Zsr ?_
 refine Zm ?_
 refine Znn ?_
 refine Zcf ?_
 refine Zsk ?_
 refine Znx ?_
 refine Zsr ?_
 refine Zm ?_
 refine Zm ?_
 refine Zm ?_
 refine Zv (.agg (#[.int .u32 line, .bool true])) (fun a fr => x_build (cells := #[.int .u32 line, .bool true]) rfl (by simp only [List.map_toArray, List.map_cons, List.map_nil, show a.eval (.tmp 77) = .int .u32 line from fr.ev rfl, show a.eval (.tmp 78) = .bool true from fr.ev rfl]; kernel_rfl)) ?_
 refine Znb (cs := #[.int .u32 line, .bool true]) fun b16 w17 hN18 B19 hb20 => ?_
 replace hB := (hB.new hN11).only hO15 ne_b_b9
 have ne_b_b16 : NE b b16 := NE.mk (Nat.lt_of_lt_of_le hB.lt hb20)
 replace hL := (hL.new hN11).only hO15 (ne1P ap_FpL_b9)
 have ap_FpL_b16 : ¬ FpL b16 := hL.apart hb20
 replace hGB := (hGB.new hN11).only hO15 ne_bg_b9
 have ne_bg_b16 : NE bg b16 := NE.mk (Nat.lt_of_lt_of_le hGB.lt hb20)
 replace hF := (hF.trNew hN11).loc hO15 (.inr g_b9)
 have g_b16 := Nat.le_trans hF.size hb20
 refine Zn ?_
 refine Zf fo83_2 ?_
 replace hB := hB.new hN18
 refine Zs1 (cs' := #[.int .i64 id, .pointer (some ⟨lb, 0, none⟩), .pointer (some ⟨b16, 0, none⟩), .pointer (some ⟨bg, 0, none⟩)]) sz80 hB (show 2 < 4 by decide) rfl fun w21 hO22 hBq => ?_
 replace hB := hBq
 clear hBq
 refine Znn ?_
 refine Zsr ?_
 refine Za ?_
 refine Znn ?_
 refine Zsq ?_
 refine Zsr ?_
 refine Zm ?_
 refine Znn ?_
 refine Zct ?_
 refine Zrg ?_
 refine Za ?_
 refine Znn ?_
 refine Zsr ?_
 refine Zm ?_
 refine Zm ?_
 refine Zm ?_
 refine Zm ?_
 refine Zk (args := #[.pointer (some ⟨b, 0, none⟩), .int .i64 2, .int .u32 line]) cf47 (msg_c hB 2 line (by omega)) ?_
 rintro v w23 ⟨rfl, hN24⟩
 intro a fr
 refine fx_build1 (E := msgE) (p := (mkM 2 id 4 line)) elMsg (by decide) fr rfl rfl (by decide) rfl (fr.ev rfl) ?_
 clear fr a
 intro A25 w26 hN27 O28 hA29
 intro a fr
 refine fx_append (E := msgE) (l := []) (l' := [(mkM 2 id 4 line)]) elMsg fr rfl rfl (by decide) rfl (fr.ev rfl) (fr.ev rfl) (by first | rfl | (simp; done) | (simp; omega)) (by first | rfl | (simp; done) | (simp; omega)) Own.nil O28.view (by first | omega | (simp only [List.length_append, List.length_cons, List.length_nil, List.nil_append]; omega)) (by first | (unfold maxLen; done) | (unfold maxLen; first | omega | (simp; done) | (simp; omega))) ?_
 clear fr a
 intro A30 cap31 w32 O33 hO34 mv35
 replace hF := (((hF.trNew hN18).loc hO22 (.inl ((hP.foot b).2 (.inl rfl)))).trNew hN24).trNew hN27
 have gN_A30 := fun g (hg : inA A30 g) => (mv35 g hg).elim (fun h => absurd h (apart_none g)) (fun h => Nat.le_trans hF.size h)
 replace hO34 := only_none hO34
 refine Za ?_
 refine Za ?_
 refine Znn ?_
 refine Zrt ?_
 refine Zre rfl [_, _] ⟨rfl, rfl, trivial⟩ ?_
 have gi_b16 : Fp b16 ∨ w.heap.size ≤ b16 := .inr g_b16
 replace hL := ((((hL.new hN18).only hO22 (ne1P ap_FpL_b)).new hN24).new hN27).new hO34
 replace hGB := ((((hGB.new hN18).only hO22 ne_bg_b).new hN24).new hN27).new hO34
 replace B19 := (((B19.only hO22 ne_b_b16.symm).new hN24).new hN27).new hO34
 replace hB := ((hB.new hN24).new hN27).new hO34
 replace hF := hF.trNew hO34
 exact ⟨_, rfl, A30, cap31, rfl, O33, gN_A30, (fun k => k = b ∨ FpL k ∨ (fun k => k = b16) k ∨ (fun k => k = bg) k), ⟨lb, FpL, _, _, (fun k => k = b16), (fun k => k = bg), hB, hL, ⟨b16, rfl, B19, fun _ => Iff.rfl, hln⟩, ⟨bg, rfl, hGB, fun _ => Iff.rfl⟩, ⟨ap_FpL_b, (fun e => (show ¬ b = b16 from ne_b_b16) e), (fun e => (show ¬ b = bg from ne_bg_b.symm) e), (fun k hk e => ap_FpL_b16 (e ▸ hk)), (fun k hk e => ap_FpL_bg (e ▸ hk)), (fun k e e2 => (show ¬ b16 = bg from ne_bg_b16.symm) (e.symm.trans e2)), fun _ => Iff.rfl⟩⟩, hF, (fun g hg => hg.elim (fun e => by rw [e]; exact .inl ((hP.foot b).2 (.inl rfl))) fun h => h.elim (gA_FpL g) fun h => h.elim (fun e => by rw [e]; exact gi_b16) (fun e => by rw [e]; exact gi_bg))⟩
set_option maxRecDepth 100000 in
set_option maxHeartbeats 4000000 in
theorem ask_sw1s {w : World} {Fp : Nat → Prop} {b : Nat} {id : Int} {n : Nat} {ways : Int} {L : List Ln} {gx : Ln} (H : CacheAt w Fp b ⟨id, n, ways, L, none, (some gx)⟩) (line : Int) (hln : 0 ≤ line ∧ line < 4294967296) (pick : Int) (hg : ¬ gx.num = line) (hs : stateOf L line ≠ 0) (hw : writesB (stateOf L line) = false) (vx : Ln) (hv : vicL n ways L line pick = some vx) (hx : vx.state = 1) : Calls Try.prog 13 #[.pointer (some ⟨b, 0, none⟩), .int .u32 line, .bool true, .int .i64 pick] w (Ret fun v w' => ∃ A' cap', v = .tuple #[.slice A' ([askM id line true hln]).length cap', .int .i64 0] ∧ Own msgE w' A' cap' ([askM id line true hln]) ∧ (∀ g, inA A' g → w.heap.size ≤ g) ∧ ∃ Fp', CacheAt w' Fp' b ⟨id, n, ways, dropL L vx.num, (some (line, true)), (some gx)⟩ ∧ Only Fp w w' ∧ ∀ g, Fp' g → Fp g ∨ w.heap.size ≤ g) := by
 obtain ⟨lb, FpL, pa, pg, FpA, FpG, hB, hL, hA, hG, hP⟩ := H
 dsimp only at hB hL hA hG
 have ap_FpL_b := hP.lb
 have ap_FpG_b := hP.gb
 have ap2_FpL_FpG := hP.lg
 obtain ⟨hn1, hn2, hw1, hw2⟩ := hL.bd
 have gA_FpL : ∀ g, FpL g → Fp g ∨ w.heap.size ≤ g := fun g hg => .inl ((hP.foot g).2 (.inr (.inl hg)))
 have gA_FpG : ∀ g, FpG g → Fp g ∨ w.heap.size ≤ g := fun g hg => .inl ((hP.foot g).2 (.inr (.inr (.inr hg))))
 have hF := Only.refl (Fp) w
 refine Zen 91 Try.func13 ?_
 refine Zsr ?_
 refine Za ?_
 refine Za ?_
 refine Znn ?_
 refine Zsq ?_
 refine Zsr ?_
 refine Zm ?_
 refine Zk cf43 (cnone_c hB) ?_
 rintro v w9 ⟨rfl, hw9⟩
 obtain rfl := hw9.symm
 refine Znn ?_
 refine Zcf ?_
 refine Zsk ?_
 refine Znx ?_
 refine Zsr ?_
 refine Zm ?_
 refine Zm ?_
 refine Zk (args := #[.pointer (some ⟨b, 0, none⟩), .int .u32 line]) cf34 (state_c line (by omega) hB hL ap_FpL_b) ?_
 rintro v w3 ⟨rfl, hN4⟩
 refine Za ?_
 refine Znn ?_
 refine Zsq ?_
 refine Zbl ?_
 refine Zsq ?_
 replace hA := hA.new hN4
 obtain ⟨rfl, hA0⟩ := hA
 replace hG := hG.new hN4
 obtain ⟨bg, rfl, hGB, hGF⟩ := hG
 have ne_bg_b : NE bg b := fun e => ap_FpG_b (e ▸ (hGF bg).2 rfl)
 have ap_FpL_bg : ¬ FpL bg := fun h => ap2_FpL_FpG bg h ((hGF bg).2 rfl)
 have gi_bg := gA_FpG bg ((hGF bg).2 rfl)
 refine Zrg ?_
 refine Zm ?_
 refine Zn ?_
 refine Zf fo83_2 ?_
 replace hB := hB.new hN4
 refine Zd pl80 (hB.cell 2 rfl) ?_
 refine Zv (.bool false) (fun _ fr => x_pneq Try.underlying80 rfl (fr.ev rfl) rfl rfl) ?_
 refine Zm ?_
 refine Zm ?_
 refine Zn ?_
 refine Zf fo83_3 ?_
 refine Zd pl81 (hB.cell 3 rfl) ?_
 refine Zv (.bool true) (fun _ fr => x_pneq Try.underlying81 rfl (fr.ev rfl) rfl rfl) ?_
 refine Zm ?_
 refine Zm ?_
 refine Zn ?_
 refine Zf fo83_3 ?_
 refine Zd pl81 (hB.cell 3 rfl) ?_
 refine Zn ?_
 refine Zf fo39_0 ?_
 refine Zd (v := .int .u32 gx.num) pl32 (hGB.cell 0 rfl) ?_
 refine Zm ?_
 refine Zv (.bool false) (fun _ fr => x_eql rfl (fr.ev rfl) (fr.ev rfl) (decide_eq_false hg)) ?_
 refine Zpt ?_
 refine Zpf ?_
 refine Za ?_
 refine Znn ?_
 refine Zcf ?_
 refine Zsr ?_
 refine Zm ?_
 refine Zv (.bool true) (fun _ fr => x_neq rfl (fr.ev rfl) rfl (decide_eq_true hs)) ?_
 refine Zm ?_
 refine Zm ?_
 refine Zv (.bool false) (fun _ fr => x_not rfl (fr.ev rfl) rfl) ?_
 refine Zm ?_
 refine Zm ?_
 refine Zk cf44 (writes_c (stateOf L line) _) ?_
 rintro v _ ⟨rfl, hw9⟩
 obtain rfl := hw9.symm
 intro a fr
 rw [hw] at fr
 revert a
 refine Zpf ?_
 refine Zpt ?_
 refine Za ?_
 refine Znn ?_
 refine Zcf ?_
 refine Zsk ?_
 refine Zb ?_
 refine Znx ?_
 refine Zsq ?_
 refine Zsr ?_
 refine Zm ?_
 refine Zn ?_
 refine Zf fo83_1 ?_
 refine Zd pl79 (hB.cell 1 rfl) ?_
 refine Zm ?_
 refine Zm ?_
 replace hL := hL.new hN4
 refine Zk (args := #[.pointer (some ⟨lb, 0, none⟩), .int .u32 line, .int .i64 pick]) cf45 (victim_c line (by omega) pick hL) ?_
 rintro v w7 ⟨rfl, hN8⟩
 intro a fr
 rw [hv] at fr
 simp only [Option.getD_some, Option.isSome_some] at fr
 revert a
 refine Zm ?_
 refine Zt ?_
 refine Zt ?_
 refine Zna (z := zv1) (cs := lnE.arr ln0) (by kernel_rfl) fun b9 w10 hN11 B12 hb13 => ?_
 replace hB := hB.new hN8
 have ne_b_b9 : NE b b9 := NE.mk (Nat.lt_of_lt_of_le hB.lt hb13)
 replace hL := hL.new hN8
 have ap_FpL_b9 : ¬ FpL b9 := hL.apart hb13
 replace hGB := hGB.new hN8
 have ne_bg_b9 : NE bg b9 := NE.mk (Nat.lt_of_lt_of_le hGB.lt hb13)
 replace hF := (hF.trNew hN4).trNew hN8
 have g_b9 := Nat.le_trans hF.size hb13
 refine ZsS sz39 (lnE.all _) B12 (lnE.size _) (lnE.size _) fun w14 hO15 hBq => ?_
 replace B12 := hBq
 clear hBq
 refine Za ?_
 refine Znn ?_
 refine Zsr ?_
 refine Zm ?_
 refine Znn ?_
 refine Zct ?_
 refine Zsr ?_
 refine Zm ?_
 refine ZE lnE ag39 (B12.rangeE lnE) ?_
 replace hB := (hB.new hN11).only hO15 ne_b_b9
 replace hL := (hL.new hN11).only hO15 (ne1P ap_FpL_b9)
 refine Zk cf46 (out_s hB hL ap_FpL_b vx hx) ?_
 rintro v w20 ⟨rfl, hB16, Fp17, H18, mv19, hN21⟩
 have ap_Fp17_b : ¬ Fp17 b := moved_apartP mv19 ap_FpL_b hB.lt
 replace hGB := (hGB.new hN11).only hO15 ne_bg_b9
 have ap_Fp17_bg : ¬ Fp17 bg := moved_apartP mv19 ap_FpL_bg hGB.lt
 replace hF := (hF.trNew hN11).loc hO15 (.inr g_b9)
 have gA_Fp17 := gA_movedP hF mv19 gA_FpL
 clear hL
 replace hB := hB16
 clear hB16
 refine Zm ?_
 refine Zt ?_
 refine Zt ?_
 refine Za ?_
 refine Za ?_
 refine Znn ?_
 refine Zsq ?_
 refine Zsr ?_
 refine Zm ?_
 refine Zv (.bool false) (fun _ fr => x_not rfl (fr.ev rfl) rfl) ?_
 refine Znn ?_
 refine Zcf ?_
 refine Zsk ?_
 refine Znx ?_
 refine Zrg ?_
 refine Zm ?_
 refine Za ?_
 refine Znn ?_
 refine Zsr ?_
 refine Zm ?_
 refine Zm ?_
 refine Zm ?_
 refine Zv (.agg (#[.int .u32 line, .bool true])) (fun a fr => x_build (cells := #[.int .u32 line, .bool true]) rfl (by simp only [List.map_toArray, List.map_cons, List.map_nil, show a.eval (.tmp 77) = .int .u32 line from fr.ev rfl, show a.eval (.tmp 78) = .bool true from fr.ev rfl]; kernel_rfl)) ?_
 refine Znb (cs := #[.int .u32 line, .bool true]) fun b22 w23 hN24 B25 hb26 => ?_
 replace hGB := hGB.only hN21 (fun h => h.elim ne_bg_b ap_FpL_bg)
 have ne_bg_b22 : NE bg b22 := NE.mk (Nat.lt_of_lt_of_le hGB.lt hb26)
 have ne_b_b22 : NE b b22 := NE.mk (Nat.lt_of_lt_of_le hB.lt hb26)
 have ap_Fp17_b22 : ¬ Fp17 b22 := H18.apart hb26
 replace hF := hF.locS hN21 (fun i => (fun h => h.elim (fun e => by rw [e]; exact (.inl ((hP.foot b).2 (.inl rfl)))) (fun h => gA_FpL i h)))
 have g_b22 := Nat.le_trans hF.size hb26
 refine Zn ?_
 refine Zf fo83_2 ?_
 replace hB := hB.new hN24
 refine Zs1 (cs' := #[.int .i64 id, .pointer (some ⟨lb, 0, none⟩), .pointer (some ⟨b22, 0, none⟩), .pointer (some ⟨bg, 0, none⟩)]) sz80 hB (show 2 < 4 by decide) rfl fun w27 hO28 hBq => ?_
 replace hB := hBq
 clear hBq
 refine Znn ?_
 refine Zsr ?_
 refine Za ?_
 refine Znn ?_
 refine Zsq ?_
 refine Zsr ?_
 refine Zm ?_
 refine Znn ?_
 refine Zct ?_
 refine Zrg ?_
 refine Za ?_
 refine Znn ?_
 refine Zsr ?_
 refine Zm ?_
 refine Zm ?_
 refine Zm ?_
 refine Zm ?_
 refine Zk (args := #[.pointer (some ⟨b, 0, none⟩), .int .i64 2, .int .u32 line]) cf47 (msg_c hB 2 line (by omega)) ?_
 rintro v w29 ⟨rfl, hN30⟩
 intro a fr
 refine fx_build1 (E := msgE) (p := (mkM 2 id 4 line)) elMsg (by decide) fr rfl rfl (by decide) rfl (fr.ev rfl) ?_
 clear fr a
 intro A31 w32 hN33 O34 hA35
 intro a fr
 refine fx_append (E := msgE) (l := []) (l' := [(mkM 2 id 4 line)]) elMsg fr rfl rfl (by decide) rfl (fr.ev rfl) (fr.ev rfl) (by first | rfl | (simp; done) | (simp; omega)) (by first | rfl | (simp; done) | (simp; omega)) Own.nil O34.view (by first | omega | (simp only [List.length_append, List.length_cons, List.length_nil, List.nil_append]; omega)) (by first | (unfold maxLen; done) | (unfold maxLen; first | omega | (simp; done) | (simp; omega))) ?_
 clear fr a
 intro A36 cap37 w38 O39 hO40 mv41
 replace hF := (((hF.trNew hN24).loc hO28 (.inl ((hP.foot b).2 (.inl rfl)))).trNew hN30).trNew hN33
 have gN_A36 := fun g (hg : inA A36 g) => (mv41 g hg).elim (fun h => absurd h (apart_none g)) (fun h => Nat.le_trans hF.size h)
 replace hO40 := only_none hO40
 refine Za ?_
 refine Za ?_
 refine Znn ?_
 refine Zrt ?_
 refine Zre rfl [_, _] ⟨rfl, rfl, trivial⟩ ?_
 have gi_b22 : Fp b22 ∨ w.heap.size ≤ b22 := .inr g_b22
 replace hGB := ((((hGB.new hN24).only hO28 ne_bg_b).new hN30).new hN33).new hO40
 replace H18 := ((((H18.new hN24).only hO28 (ne1P ap_Fp17_b)).new hN30).new hN33).new hO40
 replace B25 := (((B25.only hO28 ne_b_b22.symm).new hN30).new hN33).new hO40
 replace hB := ((hB.new hN30).new hN33).new hO40
 replace hF := hF.trNew hO40
 exact ⟨_, rfl, A36, cap37, rfl, O39, gN_A36, (fun k => k = b ∨ Fp17 k ∨ (fun k => k = b22) k ∨ (fun k => k = bg) k), ⟨lb, Fp17, _, _, (fun k => k = b22), (fun k => k = bg), hB, H18, ⟨b22, rfl, B25, fun _ => Iff.rfl, hln⟩, ⟨bg, rfl, hGB, fun _ => Iff.rfl⟩, ⟨ap_Fp17_b, (fun e => (show ¬ b = b22 from ne_b_b22) e), (fun e => (show ¬ b = bg from ne_bg_b.symm) e), (fun k hk e => ap_Fp17_b22 (e ▸ hk)), (fun k hk e => ap_Fp17_bg (e ▸ hk)), (fun k e e2 => (show ¬ b22 = bg from ne_bg_b22.symm) (e.symm.trans e2)), fun _ => Iff.rfl⟩⟩, hF, (fun g hg => hg.elim (fun e => by rw [e]; exact .inl ((hP.foot b).2 (.inl rfl))) fun h => h.elim (gA_Fp17 g) fun h => h.elim (fun e => by rw [e]; exact gi_b22) (fun e => by rw [e]; exact gi_bg))⟩
set_option maxRecDepth 100000 in
set_option maxHeartbeats 4000000 in
theorem ask_bw1s {w : World} {Fp : Nat → Prop} {b : Nat} {id : Int} {n : Nat} {ways : Int} {L : List Ln} {gx : Ln} (H : CacheAt w Fp b ⟨id, n, ways, L, none, (some gx)⟩) (line : Int) (hln : 0 ≤ line ∧ line < 4294967296) (pick : Int) (hg : ¬ gx.num = line) (hs : stateOf L line ≠ 0) (hw : writesB (stateOf L line) = false) (vx : Ln) (hv : vicL n ways L line pick = some vx) (hx : ¬ vx.state = 1) : Calls Try.prog 13 #[.pointer (some ⟨b, 0, none⟩), .int .u32 line, .bool true, .int .i64 pick] w (Ret fun v w' => v = .tuple #[.slice none 0 0, .int .i64 230] ∧ New w w') := by
 obtain ⟨lb, FpL, pa, pg, FpA, FpG, hB, hL, hA, hG, hP⟩ := H
 dsimp only at hB hL hA hG
 have ap_FpL_b := hP.lb
 obtain ⟨hn1, hn2, hw1, hw2⟩ := hL.bd
 have gA_FpG := fun g (hg : FpG g) => (Or.inl trivial : True ∨ w.heap.size ≤ g)
 have hF := Only.refl (fun _ => False) w
 refine Zen 91 Try.func13 ?_
 refine Zsr ?_
 refine Za ?_
 refine Za ?_
 refine Znn ?_
 refine Zsq ?_
 refine Zsr ?_
 refine Zm ?_
 refine Zk cf43 (cnone_c hB) ?_
 rintro v w9 ⟨rfl, hw9⟩
 obtain rfl := hw9.symm
 refine Znn ?_
 refine Zcf ?_
 refine Zsk ?_
 refine Znx ?_
 refine Zsr ?_
 refine Zm ?_
 refine Zm ?_
 refine Zk (args := #[.pointer (some ⟨b, 0, none⟩), .int .u32 line]) cf34 (state_c line (by omega) hB hL ap_FpL_b) ?_
 rintro v w3 ⟨rfl, hN4⟩
 refine Za ?_
 refine Znn ?_
 refine Zsq ?_
 refine Zbl ?_
 refine Zsq ?_
 replace hA := hA.new hN4
 obtain ⟨rfl, hA0⟩ := hA
 replace hG := hG.new hN4
 obtain ⟨bg, rfl, hGB, hGF⟩ := hG
 have gi_bg := gA_FpG bg ((hGF bg).2 rfl)
 refine Zrg ?_
 refine Zm ?_
 refine Zn ?_
 refine Zf fo83_2 ?_
 replace hB := hB.new hN4
 refine Zd pl80 (hB.cell 2 rfl) ?_
 refine Zv (.bool false) (fun _ fr => x_pneq Try.underlying80 rfl (fr.ev rfl) rfl rfl) ?_
 refine Zm ?_
 refine Zm ?_
 refine Zn ?_
 refine Zf fo83_3 ?_
 refine Zd pl81 (hB.cell 3 rfl) ?_
 refine Zv (.bool true) (fun _ fr => x_pneq Try.underlying81 rfl (fr.ev rfl) rfl rfl) ?_
 refine Zm ?_
 refine Zm ?_
 refine Zn ?_
 refine Zf fo83_3 ?_
 refine Zd pl81 (hB.cell 3 rfl) ?_
 refine Zn ?_
 refine Zf fo39_0 ?_
 refine Zd (v := .int .u32 gx.num) pl32 (hGB.cell 0 rfl) ?_
 refine Zm ?_
 refine Zv (.bool false) (fun _ fr => x_eql rfl (fr.ev rfl) (fr.ev rfl) (decide_eq_false hg)) ?_
 refine Zpt ?_
 refine Zpf ?_
 refine Za ?_
 refine Znn ?_
 refine Zcf ?_
 refine Zsr ?_
 refine Zm ?_
 refine Zv (.bool true) (fun _ fr => x_neq rfl (fr.ev rfl) rfl (decide_eq_true hs)) ?_
 refine Zm ?_
 refine Zm ?_
 refine Zv (.bool false) (fun _ fr => x_not rfl (fr.ev rfl) rfl) ?_
 refine Zm ?_
 refine Zm ?_
 refine Zk cf44 (writes_c (stateOf L line) _) ?_
 rintro v _ ⟨rfl, hw9⟩
 obtain rfl := hw9.symm
 intro a fr
 rw [hw] at fr
 revert a
 refine Zpf ?_
 refine Zpt ?_
 refine Za ?_
 refine Znn ?_
 refine Zcf ?_
 refine Zsk ?_
 refine Zb ?_
 refine Znx ?_
 refine Zsq ?_
 refine Zsr ?_
 refine Zm ?_
 refine Zn ?_
 refine Zf fo83_1 ?_
 refine Zd pl79 (hB.cell 1 rfl) ?_
 refine Zm ?_
 refine Zm ?_
 replace hL := hL.new hN4
 refine Zk (args := #[.pointer (some ⟨lb, 0, none⟩), .int .u32 line, .int .i64 pick]) cf45 (victim_c line (by omega) pick hL) ?_
 rintro v w7 ⟨rfl, hN8⟩
 intro a fr
 rw [hv] at fr
 simp only [Option.getD_some, Option.isSome_some] at fr
 revert a
 refine Zm ?_
 refine Zt ?_
 refine Zt ?_
 refine Zna (z := zv1) (cs := lnE.arr ln0) (by kernel_rfl) fun b9 w10 hN11 B12 hb13 => ?_
 replace hB := hB.new hN8
 have ne_b_b9 : NE b b9 := NE.mk (Nat.lt_of_lt_of_le hB.lt hb13)
 replace hL := hL.new hN8
 have ap_FpL_b9 : ¬ FpL b9 := hL.apart hb13
 replace hF := (hF.trNew hN4).trNew hN8
 have g_b9 := Nat.le_trans hF.size hb13
 refine ZsS sz39 (lnE.all _) B12 (lnE.size _) (lnE.size _) fun w14 hO15 hBq => ?_
 replace B12 := hBq
 clear hBq
 refine Za ?_
 refine Znn ?_
 refine Zsr ?_
 refine Zm ?_
 refine Znn ?_
 refine Zct ?_
 refine Zsr ?_
 refine Zm ?_
 refine ZE lnE ag39 (B12.rangeE lnE) ?_
 replace hB := (hB.new hN11).only hO15 ne_b_b9
 replace hL := (hL.new hN11).only hO15 (ne1P ap_FpL_b9)
 refine Zk cf46 (out_b hB hL ap_FpL_b vx hx) ?_
 rintro v w16 ⟨rfl, hN17⟩
 refine Zm ?_
 refine Zt ?_
 refine Zt ?_
 refine Za ?_
 refine Za ?_
 refine Znn ?_
 refine Zsq ?_
 refine Zsr ?_
 refine Zm ?_
 refine Zv (.bool true) (fun _ fr => x_not rfl (fr.ev rfl) rfl) ?_
 refine Znn ?_
 refine Zct ?_
 refine Zsr ?_
 refine Za ?_
 refine Za ?_
 refine Znn ?_
 refine Zrt ?_
 refine Zr1 ?_
 refine Zr1 ?_
 refine Zre rfl [_, _] ⟨rfl, rfl, trivial⟩ ?_
 replace hF := ((hF.trNew hN11).loc hO15 (.inr g_b9)).trNew hN17
 exact ⟨_, rfl, rfl, hF⟩
end Go.Proofs.Ytflnlmibkbojcaa
namespace Go.Proofs.Ytflnlmibkbojcaa
open Go.RowKit
def TakeR (w : World) (Fp : Nat → Prop) (b : Nat) (r : CD × List Msg × Int) (v : Value) (w' : World) : Prop :=
  ∃ A' cap', v = .tuple #[.slice A' r.2.1.length cap', .int .i64 r.2.2] ∧ Own msgE w' A' cap' r.2.1 ∧ (∀ g, inA A' g → w.heap.size ≤ g) ∧ ∃ Fp', CacheAt w' Fp' b r.1 ∧ Only Fp w w' ∧ ∀ g, Fp' g → Fp g ∨ w.heap.size ≤ g
theorem takeR_no {w w' : World} {Fp : Nat → Prop} {b : Nat} {r : CD × List Msg × Int} {d : CD} {v : Value} (e : Int) (hr : r = (d, [], e)) (hv : v = .tuple #[.slice none 0 0, .int .i64 e]) (h : CacheAt w' Fp b d) (hn : New w w') : TakeR w Fp b r v w' := by
  subst hr hv
  exact ⟨none, 0, rfl, Own.nil, fun g hg => absurd hg (apart_none g), Fp, h, hn.mono fun _ _ h => h.elim, fun g hg => .inl hg⟩
theorem takeR_ok {w w' : World} {Fp : Nat → Prop} {b : Nat} {r : CD × List Msg × Int} {d2 : CD} {l : List Msg} {v : Value} (hr : r = (d2, l, 0)) (h : ∃ A' cap', v = .tuple #[.slice A' l.length cap', .int .i64 0] ∧ Own msgE w' A' cap' l ∧ (∀ g, inA A' g → w.heap.size ≤ g) ∧ ∃ Fp', CacheAt w' Fp' b d2 ∧ Only Fp w w' ∧ ∀ g, Fp' g → Fp g ∨ w.heap.size ≤ g) : TakeR w Fp b r v w' := by
  subst hr
  exact h
theorem chk_kind {m : Msg} (h : chk m = 0) (hd : m.dst ≠ 4) : cacheK m.kind = true := by
  unfold chk goodMsg at h
  simp [hd] at h
  exact h.1
theorem take_6 {w : World} {Fp : Nat → Prop} {b : Nat} {id : Int} {n : Nat} {ways : Int} {L : List Ln} {ask : Option (Int × Bool)} {giv : Option Ln} (H : CacheAt w Fp b ⟨id, n, ways, L, ask, giv⟩) (m : Msg) (hck : chk m = 0) (hdn : m.dst = id) (hk : m.kind = 6) : Calls Try.prog 14 #[.pointer (some ⟨b, 0, none⟩), .agg (msgE.arr m)] w (Ret fun v w' => TakeR w Fp b (takeF ⟨id, n, ways, L, ask, giv⟩ m) v w') := by
  have h0 : ¬ (chk m ≠ 0 ∨ m.dst ≠ id) := fun h => h.elim (fun h => h hck) (fun h => h hdn)
  have e8 : ¬ (m.kind = 8 ∨ m.kind = 9 ∨ m.kind = 10) := by omega
  have e4 : ¬ (m.kind = 4 ∨ m.kind = 5) := by omega
  cases hw : writesB (stateOf L m.line) with
  | true =>
    refine (take_pan H m hck hdn (f := 52) Try.func52 nm52 rfl (by rw [hk]; rfl) fun w1 hn hC => drop_no hC m hw).mono ?_
    rintro e w' ⟨v, rfl, hv, hC, hn⟩
    exact ⟨v, rfl, takeR_no 220 (by unfold takeF; rw [if_neg h0, if_neg e8, if_neg e4, if_pos hk, if_pos hw]) hv hC hn⟩
  | false =>
    refine (take_ret H m hck hdn (f := 52) Try.func52 nm52 rfl (by rw [hk]; rfl) fun w1 hO hC => drop_ok hC m hw).mono ?_
    rintro e w' ⟨v, rfl, hv⟩
    exact ⟨v, rfl, takeR_ok (by unfold takeF; rw [if_neg h0, if_neg e8, if_neg e4, if_pos hk, if_neg (by rw [hw]; decide)]) hv⟩
theorem take_7 {w : World} {Fp : Nat → Prop} {b : Nat} {id : Int} {n : Nat} {ways : Int} {L : List Ln} {ask : Option (Int × Bool)} {giv : Option Ln} (H : CacheAt w Fp b ⟨id, n, ways, L, ask, giv⟩) (m : Msg) (hck : chk m = 0) (hdn : m.dst = id) (hk : m.kind = 7) : Calls Try.prog 14 #[.pointer (some ⟨b, 0, none⟩), .agg (msgE.arr m)] w (Ret fun v w' => TakeR w Fp b (takeF ⟨id, n, ways, L, ask, giv⟩ m) v w') := by
  have h0 : ¬ (chk m ≠ 0 ∨ m.dst ≠ id) := fun h => h.elim (fun h => h hck) (fun h => h hdn)
  have e8 : ¬ (m.kind = 8 ∨ m.kind = 9 ∨ m.kind = 10) := by omega
  have e4 : ¬ (m.kind = 4 ∨ m.kind = 5) := by omega
  have e6 : ¬ m.kind = 6 := by omega
  cases giv with
  | none =>
    refine (take_pan H m hck hdn (f := 53) Try.func53 nm53 rfl (by rw [hk]; rfl) fun w1 hn hC => acked_none hC m).mono ?_
    rintro e w' ⟨v, rfl, hv, hC, hn⟩
    exact ⟨v, rfl, takeR_no 220 (by unfold takeF; rw [if_neg h0, if_neg e8, if_neg e4, if_neg e6, if_neg (by simp [mine])]) hv hC hn⟩
  | some gx =>
    by_cases hg : gx.num = m.line
    · refine (take_ret H m hck hdn (f := 53) Try.func53 nm53 rfl (by rw [hk]; rfl) fun w1 hO hC => acked_ok hC m hg).mono ?_
      rintro e w' ⟨v, rfl, hv⟩
      exact ⟨v, rfl, takeR_ok (by unfold takeF; rw [if_neg h0, if_neg e8, if_neg e4, if_neg e6, if_pos (by simp [mine, hg])]) hv⟩
    · refine (take_pan H m hck hdn (f := 53) Try.func53 nm53 rfl (by rw [hk]; rfl) fun w1 hn hC => acked_ne hC m hg).mono ?_
      rintro e w' ⟨v, rfl, hv, hC, hn⟩
      exact ⟨v, rfl, takeR_no 220 (by unfold takeF; rw [if_neg h0, if_neg e8, if_neg e4, if_neg e6, if_neg (by simp [mine, hg])]) hv hC hn⟩
theorem take_4 {w : World} {Fp : Nat → Prop} {b : Nat} {id : Int} {n : Nat} {ways : Int} {L : List Ln} {ask : Option (Int × Bool)} {giv : Option Ln} (H : CacheAt w Fp b ⟨id, n, ways, L, ask, giv⟩) (m : Msg) (hck : chk m = 0) (hdn : m.dst = id) (hk : m.kind = 4) : Calls Try.prog 14 #[.pointer (some ⟨b, 0, none⟩), .agg (msgE.arr m)] w (Ret fun v w' => TakeR w Fp b (takeF ⟨id, n, ways, L, ask, giv⟩ m) v w') := by
  have h0 : ¬ (chk m ≠ 0 ∨ m.dst ≠ id) := fun h => h.elim (fun h => h hck) (fun h => h hdn)
  have e8 : ¬ (m.kind = 8 ∨ m.kind = 9 ∨ m.kind = 10) := by omega
  have e4 : m.kind = 4 ∨ m.kind = 5 := by omega
  cases giv with
  | none =>
    cases hw : writesB (stateOf L m.line) with
    | true =>
      refine (take_ret H m hck hdn (f := 51) Try.func51 nm51 rfl (by rw [hk]; rfl) fun w1 hO hC => back_sn hC m hw hk).mono ?_
      rintro e w' ⟨v, rfl, hv⟩
      exact ⟨v, rfl, takeR_ok (by unfold takeF; rw [if_neg h0, if_neg e8, if_pos e4]; show takeF.backF _ m = _; unfold takeF.backF; rw [if_pos hw, if_pos hk]) hv⟩
    | false =>
      refine (take_pan H m hck hdn (f := 51) Try.func51 nm51 rfl (by rw [hk]; rfl) fun w1 hn hC => back_non hC m hw).mono ?_
      rintro e w' ⟨v, rfl, hv, hC, hn⟩
      exact ⟨v, rfl, takeR_no 220 (by unfold takeF; rw [if_neg h0, if_neg e8, if_pos e4]; show takeF.backF _ m = _; unfold takeF.backF; rw [if_neg (by rw [hw]; decide)]) hv hC hn⟩
  | some gx =>
    by_cases hg : gx.num = m.line
    · refine (take_ret H m hck hdn (f := 51) Try.func51 nm51 rfl (by rw [hk]; rfl) fun w1 hO hC => (back_g hC m hg).mono (by rintro e w' ⟨v, rfl, A, c, hv, hO, hA, hn⟩; exact ⟨v, rfl, A, c, hv, hO, hA, Fp, hC.new hn, hn.mono fun _ _ h => h.elim, fun g hg => .inl hg⟩)).mono ?_
      rintro e w' ⟨v, rfl, hv⟩
      exact ⟨v, rfl, takeR_ok (by unfold takeF; rw [if_neg h0, if_neg e8, if_pos e4]; show (if gx.num = m.line then _ else _) = _; rw [if_pos hg]) hv⟩
    · cases hw : writesB (stateOf L m.line) with
      | true =>
        refine (take_ret H m hck hdn (f := 51) Try.func51 nm51 rfl (by rw [hk]; rfl) fun w1 hO hC => back_sg hC m hg hw hk).mono ?_
        rintro e w' ⟨v, rfl, hv⟩
        exact ⟨v, rfl, takeR_ok (by unfold takeF; rw [if_neg h0, if_neg e8, if_pos e4]; show (if gx.num = m.line then _ else _) = _; rw [if_neg hg]; show takeF.backF _ m = _; unfold takeF.backF; rw [if_pos hw, if_pos hk]) hv⟩
      | false =>
        refine (take_pan H m hck hdn (f := 51) Try.func51 nm51 rfl (by rw [hk]; rfl) fun w1 hn hC => back_nog hC m hg hw).mono ?_
        rintro e w' ⟨v, rfl, hv, hC, hn⟩
        exact ⟨v, rfl, takeR_no 220 (by unfold takeF; rw [if_neg h0, if_neg e8, if_pos e4]; show (if gx.num = m.line then _ else _) = _; rw [if_neg hg]; show takeF.backF _ m = _; unfold takeF.backF; rw [if_neg (by rw [hw]; decide)]) hv hC hn⟩
theorem take_5 {w : World} {Fp : Nat → Prop} {b : Nat} {id : Int} {n : Nat} {ways : Int} {L : List Ln} {ask : Option (Int × Bool)} {giv : Option Ln} (H : CacheAt w Fp b ⟨id, n, ways, L, ask, giv⟩) (m : Msg) (hck : chk m = 0) (hdn : m.dst = id) (hk : m.kind = 5) : Calls Try.prog 14 #[.pointer (some ⟨b, 0, none⟩), .agg (msgE.arr m)] w (Ret fun v w' => TakeR w Fp b (takeF ⟨id, n, ways, L, ask, giv⟩ m) v w') := by
  have h0 : ¬ (chk m ≠ 0 ∨ m.dst ≠ id) := fun h => h.elim (fun h => h hck) (fun h => h hdn)
  have e8 : ¬ (m.kind = 8 ∨ m.kind = 9 ∨ m.kind = 10) := by omega
  have e4 : m.kind = 4 ∨ m.kind = 5 := by omega
  have h44 : ¬ m.kind = 4 := by omega
  cases giv with
  | none =>
    cases hw : writesB (stateOf L m.line) with
    | true =>
      refine (take_ret H m hck hdn (f := 51) Try.func51 nm51 rfl (by rw [hk]; rfl) fun w1 hO hC => back_dn hC m hw h44).mono ?_
      rintro e w' ⟨v, rfl, hv⟩
      exact ⟨v, rfl, takeR_ok (by unfold takeF; rw [if_neg h0, if_neg e8, if_pos e4]; show takeF.backF _ m = _; unfold takeF.backF; rw [if_pos hw, if_neg h44]) hv⟩
    | false =>
      refine (take_pan H m hck hdn (f := 51) Try.func51 nm51 rfl (by rw [hk]; rfl) fun w1 hn hC => back_non hC m hw).mono ?_
      rintro e w' ⟨v, rfl, hv, hC, hn⟩
      exact ⟨v, rfl, takeR_no 220 (by unfold takeF; rw [if_neg h0, if_neg e8, if_pos e4]; show takeF.backF _ m = _; unfold takeF.backF; rw [if_neg (by rw [hw]; decide)]) hv hC hn⟩
  | some gx =>
    by_cases hg : gx.num = m.line
    · refine (take_ret H m hck hdn (f := 51) Try.func51 nm51 rfl (by rw [hk]; rfl) fun w1 hO hC => (back_g hC m hg).mono (by rintro e w' ⟨v, rfl, A, c, hv, hO, hA, hn⟩; exact ⟨v, rfl, A, c, hv, hO, hA, Fp, hC.new hn, hn.mono fun _ _ h => h.elim, fun g hg => .inl hg⟩)).mono ?_
      rintro e w' ⟨v, rfl, hv⟩
      exact ⟨v, rfl, takeR_ok (by unfold takeF; rw [if_neg h0, if_neg e8, if_pos e4]; show (if gx.num = m.line then _ else _) = _; rw [if_pos hg]) hv⟩
    · cases hw : writesB (stateOf L m.line) with
      | true =>
        refine (take_ret H m hck hdn (f := 51) Try.func51 nm51 rfl (by rw [hk]; rfl) fun w1 hO hC => back_dg hC m hg hw h44).mono ?_
        rintro e w' ⟨v, rfl, hv⟩
        exact ⟨v, rfl, takeR_ok (by unfold takeF; rw [if_neg h0, if_neg e8, if_pos e4]; show (if gx.num = m.line then _ else _) = _; rw [if_neg hg]; show takeF.backF _ m = _; unfold takeF.backF; rw [if_pos hw, if_neg h44]) hv⟩
      | false =>
        refine (take_pan H m hck hdn (f := 51) Try.func51 nm51 rfl (by rw [hk]; rfl) fun w1 hn hC => back_nog hC m hg hw).mono ?_
        rintro e w' ⟨v, rfl, hv, hC, hn⟩
        exact ⟨v, rfl, takeR_no 220 (by unfold takeF; rw [if_neg h0, if_neg e8, if_pos e4]; show (if gx.num = m.line then _ else _) = _; rw [if_neg hg]; show takeF.backF _ m = _; unfold takeF.backF; rw [if_neg (by rw [hw]; decide)]) hv hC hn⟩
theorem take_8 {w : World} {Fp : Nat → Prop} {b : Nat} {id : Int} {n : Nat} {ways : Int} {L : List Ln} {ask : Option (Int × Bool)} {giv : Option Ln} (H : CacheAt w Fp b ⟨id, n, ways, L, ask, giv⟩) (m : Msg) (hck : chk m = 0) (hdn : m.dst = id) (hk : m.kind = 8) (hroom : dataOk ⟨id, n, ways, L, ask, giv⟩ m = true → putE n ways L (dataLn m) = 0) : Calls Try.prog 14 #[.pointer (some ⟨b, 0, none⟩), .agg (msgE.arr m)] w (Ret fun v w' => TakeR w Fp b (takeF ⟨id, n, ways, L, ask, giv⟩ m) v w') := by
  have h0 : ¬ (chk m ≠ 0 ∨ m.dst ≠ id) := fun h => h.elim (fun h => h hck) (fun h => h hdn)
  have e8 : m.kind = 8 ∨ m.kind = 9 ∨ m.kind = 10 := by omega
  have hl : dataLn m = mkL m.line 1 m.bs m.hn := by unfold dataLn; rw [if_pos hk]
  rcases ask with _ | ⟨al, aw⟩
  · refine (take_pan H m hck hdn (f := 50) Try.func50 nm50 rfl (by rw [hk]; rfl) fun w1 hn hC => data_none hC m).mono ?_
    rintro e w' ⟨v, rfl, hv, hC, hn⟩
    exact ⟨v, rfl, takeR_no 220 (by unfold takeF; rw [if_neg h0, if_pos e8, if_neg (fun h => by have h9 := h.1; simp [dataOk] at h9)]) hv hC hn⟩
  · by_cases ha : al = m.line
    · cases hw : (aw == decide (m.kind = 10)) with
      | false =>
        refine (take_pan H m hck hdn (f := 50) Try.func50 nm50 rfl (by rw [hk]; rfl) fun w1 hn hC => data_w hC m ha hw).mono ?_
        rintro e w' ⟨v, rfl, hv, hC, hn⟩
        exact ⟨v, rfl, takeR_no 220 (by unfold takeF; rw [if_neg h0, if_pos e8, if_neg (fun h => by have h9 : (decide (al = m.line) && (aw == decide (m.kind = 10))) = true := h.1; rw [hw] at h9; simp at h9)]) hv hC hn⟩
      | true =>
        have hdk : dataOk ⟨id, n, ways, L, some (al, aw), giv⟩ m = true := by show (decide (al = m.line) && (aw == decide (m.kind = 10))) = true; rw [decide_eq_true ha, hw]; rfl
        have hp := hroom hdk
        have hp2 := hp
        rw [hl] at hp2
        have hw8 : (aw == false) = true := by have h9 := hw; rw [hk] at h9; simpa using h9
        refine (take_ret H m hck hdn (f := 50) Try.func50 nm50 rfl (by rw [hk]; rfl) fun w1 hO hC => data_s hC m ha hw8 hk hp2).mono ?_
        rintro e w' ⟨v, rfl, hv⟩
        exact ⟨v, rfl, takeR_ok (by unfold takeF; rw [if_neg h0, if_pos e8, if_pos ⟨hdk, hp⟩, hl]) hv⟩
    · refine (take_pan H m hck hdn (f := 50) Try.func50 nm50 rfl (by rw [hk]; rfl) fun w1 hn hC => data_ne hC m ha).mono ?_
      rintro e w' ⟨v, rfl, hv, hC, hn⟩
      exact ⟨v, rfl, takeR_no 220 (by unfold takeF; rw [if_neg h0, if_pos e8, if_neg (fun h => by have h9 := h.1; simp [dataOk, ha] at h9)]) hv hC hn⟩
theorem take_9 {w : World} {Fp : Nat → Prop} {b : Nat} {id : Int} {n : Nat} {ways : Int} {L : List Ln} {ask : Option (Int × Bool)} {giv : Option Ln} (H : CacheAt w Fp b ⟨id, n, ways, L, ask, giv⟩) (m : Msg) (hck : chk m = 0) (hdn : m.dst = id) (hk : m.kind = 9) (hroom : dataOk ⟨id, n, ways, L, ask, giv⟩ m = true → putE n ways L (dataLn m) = 0) : Calls Try.prog 14 #[.pointer (some ⟨b, 0, none⟩), .agg (msgE.arr m)] w (Ret fun v w' => TakeR w Fp b (takeF ⟨id, n, ways, L, ask, giv⟩ m) v w') := by
  have h0 : ¬ (chk m ≠ 0 ∨ m.dst ≠ id) := fun h => h.elim (fun h => h hck) (fun h => h hdn)
  have e8 : m.kind = 8 ∨ m.kind = 9 ∨ m.kind = 10 := by omega
  have h88 : ¬ m.kind = 8 := by omega
  have hl : dataLn m = mkL m.line 2 m.bs m.hn := by unfold dataLn; rw [if_neg h88]
  rcases ask with _ | ⟨al, aw⟩
  · refine (take_pan H m hck hdn (f := 50) Try.func50 nm50 rfl (by rw [hk]; rfl) fun w1 hn hC => data_none hC m).mono ?_
    rintro e w' ⟨v, rfl, hv, hC, hn⟩
    exact ⟨v, rfl, takeR_no 220 (by unfold takeF; rw [if_neg h0, if_pos e8, if_neg (fun h => by have h9 := h.1; simp [dataOk] at h9)]) hv hC hn⟩
  · by_cases ha : al = m.line
    · cases hw : (aw == decide (m.kind = 10)) with
      | false =>
        refine (take_pan H m hck hdn (f := 50) Try.func50 nm50 rfl (by rw [hk]; rfl) fun w1 hn hC => data_w hC m ha hw).mono ?_
        rintro e w' ⟨v, rfl, hv, hC, hn⟩
        exact ⟨v, rfl, takeR_no 220 (by unfold takeF; rw [if_neg h0, if_pos e8, if_neg (fun h => by have h9 : (decide (al = m.line) && (aw == decide (m.kind = 10))) = true := h.1; rw [hw] at h9; simp at h9)]) hv hC hn⟩
      | true =>
        have hdk : dataOk ⟨id, n, ways, L, some (al, aw), giv⟩ m = true := by show (decide (al = m.line) && (aw == decide (m.kind = 10))) = true; rw [decide_eq_true ha, hw]; rfl
        have hp := hroom hdk
        have hp2 := hp
        rw [hl] at hp2
        refine (take_ret H m hck hdn (f := 50) Try.func50 nm50 rfl (by rw [hk]; rfl) fun w1 hO hC => data_e hC m ha hw h88 hp2).mono ?_
        rintro e w' ⟨v, rfl, hv⟩
        exact ⟨v, rfl, takeR_ok (by unfold takeF; rw [if_neg h0, if_pos e8, if_pos ⟨hdk, hp⟩, hl]) hv⟩
    · refine (take_pan H m hck hdn (f := 50) Try.func50 nm50 rfl (by rw [hk]; rfl) fun w1 hn hC => data_ne hC m ha).mono ?_
      rintro e w' ⟨v, rfl, hv, hC, hn⟩
      exact ⟨v, rfl, takeR_no 220 (by unfold takeF; rw [if_neg h0, if_pos e8, if_neg (fun h => by have h9 := h.1; simp [dataOk, ha] at h9)]) hv hC hn⟩
theorem take_10 {w : World} {Fp : Nat → Prop} {b : Nat} {id : Int} {n : Nat} {ways : Int} {L : List Ln} {ask : Option (Int × Bool)} {giv : Option Ln} (H : CacheAt w Fp b ⟨id, n, ways, L, ask, giv⟩) (m : Msg) (hck : chk m = 0) (hdn : m.dst = id) (hk : m.kind = 10) (hroom : dataOk ⟨id, n, ways, L, ask, giv⟩ m = true → putE n ways L (dataLn m) = 0) : Calls Try.prog 14 #[.pointer (some ⟨b, 0, none⟩), .agg (msgE.arr m)] w (Ret fun v w' => TakeR w Fp b (takeF ⟨id, n, ways, L, ask, giv⟩ m) v w') := by
  have h0 : ¬ (chk m ≠ 0 ∨ m.dst ≠ id) := fun h => h.elim (fun h => h hck) (fun h => h hdn)
  have e8 : m.kind = 8 ∨ m.kind = 9 ∨ m.kind = 10 := by omega
  have h88 : ¬ m.kind = 8 := by omega
  have hl : dataLn m = mkL m.line 2 m.bs m.hn := by unfold dataLn; rw [if_neg h88]
  rcases ask with _ | ⟨al, aw⟩
  · refine (take_pan H m hck hdn (f := 50) Try.func50 nm50 rfl (by rw [hk]; rfl) fun w1 hn hC => data_none hC m).mono ?_
    rintro e w' ⟨v, rfl, hv, hC, hn⟩
    exact ⟨v, rfl, takeR_no 220 (by unfold takeF; rw [if_neg h0, if_pos e8, if_neg (fun h => by have h9 := h.1; simp [dataOk] at h9)]) hv hC hn⟩
  · by_cases ha : al = m.line
    · cases hw : (aw == decide (m.kind = 10)) with
      | false =>
        refine (take_pan H m hck hdn (f := 50) Try.func50 nm50 rfl (by rw [hk]; rfl) fun w1 hn hC => data_w hC m ha hw).mono ?_
        rintro e w' ⟨v, rfl, hv, hC, hn⟩
        exact ⟨v, rfl, takeR_no 220 (by unfold takeF; rw [if_neg h0, if_pos e8, if_neg (fun h => by have h9 : (decide (al = m.line) && (aw == decide (m.kind = 10))) = true := h.1; rw [hw] at h9; simp at h9)]) hv hC hn⟩
      | true =>
        have hdk : dataOk ⟨id, n, ways, L, some (al, aw), giv⟩ m = true := by show (decide (al = m.line) && (aw == decide (m.kind = 10))) = true; rw [decide_eq_true ha, hw]; rfl
        have hp := hroom hdk
        have hp2 := hp
        rw [hl] at hp2
        refine (take_ret H m hck hdn (f := 50) Try.func50 nm50 rfl (by rw [hk]; rfl) fun w1 hO hC => data_e hC m ha hw h88 hp2).mono ?_
        rintro e w' ⟨v, rfl, hv⟩
        exact ⟨v, rfl, takeR_ok (by unfold takeF; rw [if_neg h0, if_pos e8, if_pos ⟨hdk, hp⟩, hl]) hv⟩
    · refine (take_pan H m hck hdn (f := 50) Try.func50 nm50 rfl (by rw [hk]; rfl) fun w1 hn hC => data_ne hC m ha).mono ?_
      rintro e w' ⟨v, rfl, hv, hC, hn⟩
      exact ⟨v, rfl, takeR_no 220 (by unfold takeF; rw [if_neg h0, if_pos e8, if_neg (fun h => by have h9 := h.1; simp [dataOk, ha] at h9)]) hv hC hn⟩
theorem take_c {w : World} {Fp : Nat → Prop} {b : Nat} {id : Int} {n : Nat} {ways : Int} {L : List Ln} {ask : Option (Int × Bool)} {giv : Option Ln} (H : CacheAt w Fp b ⟨id, n, ways, L, ask, giv⟩) (m : Msg) (hid : 0 ≤ id ∧ id < 4) (hroom : dataOk ⟨id, n, ways, L, ask, giv⟩ m = true → putE n ways L (dataLn m) = 0) : Calls Try.prog 14 #[.pointer (some ⟨b, 0, none⟩), .agg (msgE.arr m)] w (Ret fun v w' => TakeR w Fp b (takeF ⟨id, n, ways, L, ask, giv⟩ m) v w') := by
  by_cases h1 : chk m ≠ 0
  · refine (take_a1 H m h1).mono ?_
    rintro e w' ⟨v, rfl, hv, hC, hn⟩
    exact ⟨v, rfl, takeR_no 2 (by unfold takeF; rw [if_pos (.inl h1)]) hv hC hn⟩
  by_cases h2 : m.dst ≠ id
  · refine (take_a2 H m h1 h2).mono ?_
    rintro e w' ⟨v, rfl, hv, hC, hn⟩
    exact ⟨v, rfl, takeR_no 2 (by unfold takeF; rw [if_pos (.inr h2)]) hv hC hn⟩
  have hck : chk m = 0 := Decidable.not_not.1 h1
  have hdn : m.dst = id := Decidable.not_not.1 h2
  have hc := chk_kind hck (by rw [hdn]; omega)
  unfold cacheK at hc
  simp only [Bool.or_eq_true, decide_eq_true_eq] at hc
  rcases hc with (((((hk | hk) | hk) | hk) | hk) | hk) | hk
  · exact take_4 H m hck hdn hk
  · exact take_5 H m hck hdn hk
  · exact take_6 H m hck hdn hk
  · exact take_7 H m hck hdn hk
  · exact take_8 H m hck hdn hk hroom
  · exact take_9 H m hck hdn hk hroom
  · exact take_10 H m hck hdn hk hroom
end Go.Proofs.Ytflnlmibkbojcaa
namespace Go.Proofs.Ytflnlmibkbojcaa
open Go.RowKit
theorem ask_rn {w : World} {Fp : Nat → Prop} {b : Nat} {id : Int} {n : Nat} {ways : Int} {L : List Ln} (H : CacheAt w Fp b ⟨id, n, ways, L, none, none⟩) (line : Int) (hln : 0 ≤ line ∧ line < 4294967296) (pick : Int) : Calls Try.prog 13 #[.pointer (some ⟨b, 0, none⟩), .int .u32 line, .bool false, .int .i64 pick] w (Ret fun v w' => TakeR w Fp b (askF ⟨id, n, ways, L, none, none⟩ line hln false pick) v w') := by
  have c1 : ¬ ((none : Option (Int × Bool)).isSome = true ∨ mine none line = true) := by simp [mine]
  by_cases hs : stateOf L line ≠ 0
  · refine (ask_trn H line hln pick hs).mono ?_
    rintro e w' ⟨v, rfl, hv9, hn⟩
    exact ⟨v, rfl, takeR_no 231 (by unfold askF; rw [if_neg c1, if_pos ⟨hs, .inl rfl⟩]) hv9 (H.new hn) hn⟩
  · have c2 : ¬ (stateOf L line ≠ 0 ∧ (false = false ∨ writesB (stateOf L line) = true)) := fun h => hs h.1
    cases hv : vicL n ways L line pick with
    | none =>
      refine (ask_nr0n H line hln pick hs hv).mono ?_
      rintro e w' ⟨v, rfl, hv9⟩
      exact ⟨v, rfl, takeR_ok (by unfold askF; rw [if_neg c1, if_neg c2]; simp only [hv]) hv9⟩
    | some vx =>
      by_cases hx : vx.state = 1
      · refine (ask_sr0n H line hln pick hs vx hv hx).mono ?_
        rintro e w' ⟨v, rfl, hv9⟩
        exact ⟨v, rfl, takeR_ok (by unfold askF; rw [if_neg c1, if_neg c2]; simp only [hv]; simp [outF, hx]) hv9⟩
      · refine (ask_pr0n H line hln pick hs vx hv hx).mono ?_
        rintro e w' ⟨v, rfl, hv9⟩
        exact ⟨v, rfl, takeR_ok (by unfold askF; rw [if_neg c1, if_neg c2]; simp only [hv]; simp [outF, hx]) hv9⟩
theorem ask_wn {w : World} {Fp : Nat → Prop} {b : Nat} {id : Int} {n : Nat} {ways : Int} {L : List Ln} (H : CacheAt w Fp b ⟨id, n, ways, L, none, none⟩) (line : Int) (hln : 0 ≤ line ∧ line < 4294967296) (pick : Int) : Calls Try.prog 13 #[.pointer (some ⟨b, 0, none⟩), .int .u32 line, .bool true, .int .i64 pick] w (Ret fun v w' => TakeR w Fp b (askF ⟨id, n, ways, L, none, none⟩ line hln true pick) v w') := by
  have c1 : ¬ ((none : Option (Int × Bool)).isSome = true ∨ mine none line = true) := by simp [mine]
  by_cases hs : stateOf L line ≠ 0
  · cases hw : writesB (stateOf L line) with
    | true =>
      refine (ask_twn H line hln pick hs hw).mono ?_
      rintro e w' ⟨v, rfl, hv9, hn⟩
      exact ⟨v, rfl, takeR_no 231 (by unfold askF; rw [if_neg c1, if_pos ⟨hs, .inr hw⟩]) hv9 (H.new hn) hn⟩
    | false =>
      have c2 : ¬ (stateOf L line ≠ 0 ∧ (true = false ∨ writesB (stateOf L line) = true)) := by simp [hw]
      cases hv : vicL n ways L line pick with
      | none =>
        refine (ask_nw1n H line hln pick hs hw hv).mono ?_
        rintro e w' ⟨v, rfl, hv9⟩
        exact ⟨v, rfl, takeR_ok (by unfold askF; rw [if_neg c1, if_neg c2]; simp only [hv]) hv9⟩
      | some vx =>
        by_cases hx : vx.state = 1
        · refine (ask_sw1n H line hln pick hs hw vx hv hx).mono ?_
          rintro e w' ⟨v, rfl, hv9⟩
          exact ⟨v, rfl, takeR_ok (by unfold askF; rw [if_neg c1, if_neg c2]; simp only [hv]; simp [outF, hx]) hv9⟩
        · refine (ask_pw1n H line hln pick hs hw vx hv hx).mono ?_
          rintro e w' ⟨v, rfl, hv9⟩
          exact ⟨v, rfl, takeR_ok (by unfold askF; rw [if_neg c1, if_neg c2]; simp only [hv]; simp [outF, hx]) hv9⟩
  · have c2 : ¬ (stateOf L line ≠ 0 ∧ (true = false ∨ writesB (stateOf L line) = true)) := fun h => hs h.1
    cases hv : vicL n ways L line pick with
    | none =>
      refine (ask_nw0n H line hln pick hs hv).mono ?_
      rintro e w' ⟨v, rfl, hv9⟩
      exact ⟨v, rfl, takeR_ok (by unfold askF; rw [if_neg c1, if_neg c2]; simp only [hv]) hv9⟩
    | some vx =>
      by_cases hx : vx.state = 1
      · refine (ask_sw0n H line hln pick hs vx hv hx).mono ?_
        rintro e w' ⟨v, rfl, hv9⟩
        exact ⟨v, rfl, takeR_ok (by unfold askF; rw [if_neg c1, if_neg c2]; simp only [hv]; simp [outF, hx]) hv9⟩
      · refine (ask_pw0n H line hln pick hs vx hv hx).mono ?_
        rintro e w' ⟨v, rfl, hv9⟩
        exact ⟨v, rfl, takeR_ok (by unfold askF; rw [if_neg c1, if_neg c2]; simp only [hv]; simp [outF, hx]) hv9⟩
theorem ask_rs {w : World} {Fp : Nat → Prop} {b : Nat} {id : Int} {n : Nat} {ways : Int} {L : List Ln} {gx : Ln} (H : CacheAt w Fp b ⟨id, n, ways, L, none, (some gx)⟩) (line : Int) (hln : 0 ≤ line ∧ line < 4294967296) (pick : Int) (hg : ¬ gx.num = line) : Calls Try.prog 13 #[.pointer (some ⟨b, 0, none⟩), .int .u32 line, .bool false, .int .i64 pick] w (Ret fun v w' => TakeR w Fp b (askF ⟨id, n, ways, L, none, (some gx)⟩ line hln false pick) v w') := by
  have c1 : ¬ ((none : Option (Int × Bool)).isSome = true ∨ mine (some gx) line = true) := by simp [mine, hg]
  by_cases hs : stateOf L line ≠ 0
  · refine (ask_trs H line hln pick hg hs).mono ?_
    rintro e w' ⟨v, rfl, hv9, hn⟩
    exact ⟨v, rfl, takeR_no 231 (by unfold askF; rw [if_neg c1, if_pos ⟨hs, .inl rfl⟩]) hv9 (H.new hn) hn⟩
  · have c2 : ¬ (stateOf L line ≠ 0 ∧ (false = false ∨ writesB (stateOf L line) = true)) := fun h => hs h.1
    cases hv : vicL n ways L line pick with
    | none =>
      refine (ask_nr0s H line hln pick hg hs hv).mono ?_
      rintro e w' ⟨v, rfl, hv9⟩
      exact ⟨v, rfl, takeR_ok (by unfold askF; rw [if_neg c1, if_neg c2]; simp only [hv]) hv9⟩
    | some vx =>
      by_cases hx : vx.state = 1
      · refine (ask_sr0s H line hln pick hg hs vx hv hx).mono ?_
        rintro e w' ⟨v, rfl, hv9⟩
        exact ⟨v, rfl, takeR_ok (by unfold askF; rw [if_neg c1, if_neg c2]; simp only [hv]; simp [outF, hx]) hv9⟩
      · refine (ask_br0s H line hln pick hg hs vx hv hx).mono ?_
        rintro e w' ⟨v, rfl, hv9, hn⟩
        exact ⟨v, rfl, takeR_no 230 (by unfold askF; rw [if_neg c1, if_neg c2]; simp only [hv]; simp [outF, hx]) hv9 (H.new hn) hn⟩
theorem ask_ws {w : World} {Fp : Nat → Prop} {b : Nat} {id : Int} {n : Nat} {ways : Int} {L : List Ln} {gx : Ln} (H : CacheAt w Fp b ⟨id, n, ways, L, none, (some gx)⟩) (line : Int) (hln : 0 ≤ line ∧ line < 4294967296) (pick : Int) (hg : ¬ gx.num = line) : Calls Try.prog 13 #[.pointer (some ⟨b, 0, none⟩), .int .u32 line, .bool true, .int .i64 pick] w (Ret fun v w' => TakeR w Fp b (askF ⟨id, n, ways, L, none, (some gx)⟩ line hln true pick) v w') := by
  have c1 : ¬ ((none : Option (Int × Bool)).isSome = true ∨ mine (some gx) line = true) := by simp [mine, hg]
  by_cases hs : stateOf L line ≠ 0
  · cases hw : writesB (stateOf L line) with
    | true =>
      refine (ask_tws H line hln pick hg hs hw).mono ?_
      rintro e w' ⟨v, rfl, hv9, hn⟩
      exact ⟨v, rfl, takeR_no 231 (by unfold askF; rw [if_neg c1, if_pos ⟨hs, .inr hw⟩]) hv9 (H.new hn) hn⟩
    | false =>
      have c2 : ¬ (stateOf L line ≠ 0 ∧ (true = false ∨ writesB (stateOf L line) = true)) := by simp [hw]
      cases hv : vicL n ways L line pick with
      | none =>
        refine (ask_nw1s H line hln pick hg hs hw hv).mono ?_
        rintro e w' ⟨v, rfl, hv9⟩
        exact ⟨v, rfl, takeR_ok (by unfold askF; rw [if_neg c1, if_neg c2]; simp only [hv]) hv9⟩
      | some vx =>
        by_cases hx : vx.state = 1
        · refine (ask_sw1s H line hln pick hg hs hw vx hv hx).mono ?_
          rintro e w' ⟨v, rfl, hv9⟩
          exact ⟨v, rfl, takeR_ok (by unfold askF; rw [if_neg c1, if_neg c2]; simp only [hv]; simp [outF, hx]) hv9⟩
        · refine (ask_bw1s H line hln pick hg hs hw vx hv hx).mono ?_
          rintro e w' ⟨v, rfl, hv9, hn⟩
          exact ⟨v, rfl, takeR_no 230 (by unfold askF; rw [if_neg c1, if_neg c2]; simp only [hv]; simp [outF, hx]) hv9 (H.new hn) hn⟩
  · have c2 : ¬ (stateOf L line ≠ 0 ∧ (true = false ∨ writesB (stateOf L line) = true)) := fun h => hs h.1
    cases hv : vicL n ways L line pick with
    | none =>
      refine (ask_nw0s H line hln pick hg hs hv).mono ?_
      rintro e w' ⟨v, rfl, hv9⟩
      exact ⟨v, rfl, takeR_ok (by unfold askF; rw [if_neg c1, if_neg c2]; simp only [hv]) hv9⟩
    | some vx =>
      by_cases hx : vx.state = 1
      · refine (ask_sw0s H line hln pick hg hs vx hv hx).mono ?_
        rintro e w' ⟨v, rfl, hv9⟩
        exact ⟨v, rfl, takeR_ok (by unfold askF; rw [if_neg c1, if_neg c2]; simp only [hv]; simp [outF, hx]) hv9⟩
      · refine (ask_bw0s H line hln pick hg hs vx hv hx).mono ?_
        rintro e w' ⟨v, rfl, hv9, hn⟩
        exact ⟨v, rfl, takeR_no 230 (by unfold askF; rw [if_neg c1, if_neg c2]; simp only [hv]; simp [outF, hx]) hv9 (H.new hn) hn⟩
theorem ask_c {w : World} {Fp : Nat → Prop} {b : Nat} {id : Int} {n : Nat} {ways : Int} {L : List Ln} {ask : Option (Int × Bool)} {giv : Option Ln} (H : CacheAt w Fp b ⟨id, n, ways, L, ask, giv⟩) (line : Int) (hln : 0 ≤ line ∧ line < 4294967296) (pick : Int) (wr : Bool) : Calls Try.prog 13 #[.pointer (some ⟨b, 0, none⟩), .int .u32 line, .bool wr, .int .i64 pick] w (Ret fun v w' => TakeR w Fp b (askF ⟨id, n, ways, L, ask, giv⟩ line hln wr pick) v w') := by
  rcases ask with _ | ⟨al, aw⟩
  · rcases giv with _ | gx
    · cases wr
      · exact ask_rn H line hln pick
      · exact ask_wn H line hln pick
    · by_cases hg : gx.num = line
      · refine (ask_b2 H line hln pick hg wr).mono ?_
        rintro e w' ⟨v, rfl, hv9, hn⟩
        exact ⟨v, rfl, takeR_no 230 (by unfold askF; rw [if_pos (.inr (by simp [mine, hg]))]) hv9 (H.new hn) hn⟩
      · cases wr
        · exact ask_rs H line hln pick hg
        · exact ask_ws H line hln pick hg
  · refine (ask_b1 H line hln pick wr).mono ?_
    rintro e w' ⟨v, rfl, hv9, hn⟩
    exact ⟨v, rfl, takeR_no 230 (by unfold askF; rw [if_pos (.inl rfl)]) hv9 (H.new hn) hn⟩
end Go.Proofs.Ytflnlmibkbojcaa
namespace Go.Proofs.Ytflnlmibkbojcaa
open Go.RowKit
set_option maxRecDepth 100000 in
set_option maxHeartbeats 4000000 in
theorem place_no (addr : Int) (ha : 0 ≤ addr ∧ addr < 4294967296) (width : Int) (hw1 : ¬ width = 1) (hw2 : ¬ width = 2) (hw4 : ¬ width = 4) (w : World) : Calls Try.prog 54 #[.int .u32 addr, .int .i64 width] w (Ret fun v w' => v = .tuple #[.int .u32 (addr / 16), .int .i64 (addr % 16), .bool false] ∧ w' = w) := by
 refine Zen 32 Try.func54 ?_
 refine Zsr ?_
 refine Za ?_
 refine Za ?_
 refine Za ?_
 refine Znn ?_
 refine Zsr ?_
 refine Zm ?_
 refine Zv (.bool false) (fun _ fr => x_eql rfl (fr.ev rfl) rfl (decide_eq_false hw1)) ?_
 refine Zm ?_
 refine Zm ?_
 refine Zv (.bool false) (fun _ fr => x_eql rfl (fr.ev rfl) rfl (decide_eq_false hw2)) ?_
 refine Zpf ?_
 refine Zm ?_
 refine Zm ?_
 refine Zv (.bool false) (fun _ fr => x_eql rfl (fr.ev rfl) rfl (decide_eq_false hw4)) ?_
 refine Zpf ?_
 refine Zm ?_
 refine Zs ?_
 refine Zs ?_
 refine Zs ?_
 refine Zs ?_
 refine Zs ?_
 refine Zs ?_
 refine Zpf ?_
 refine Za ?_
 refine Znn ?_
 refine Zsr ?_
 refine Zm ?_
 refine Zv (.int .u32 (addr / 16)) (fun _ fr => x_quo rfl (fr.ev rfl) rfl (by decide) (u32q (by omega) (by decide))) ?_
 refine Zm ?_
 refine Zv (.int .u32 (addr % 16)) (fun _ fr => x_rem rfl (fr.ev rfl) rfl (by decide) (rem_nn (by omega))) ?_
 refine Zv _ (fun _ fr => x_convert Try.underlying32 Try.underlying3 rfl (fr.ev rfl) (i64w (r := addr % 16) rfl (by omega))) ?_
 refine Zm ?_
 refine Za ?_
 refine Za ?_
 refine Za ?_
 refine Znn ?_
 refine Zrt ?_
 refine Zre rfl [_, _, _] ⟨rfl, rfl, rfl, trivial⟩ ?_
 exact ⟨_, rfl, rfl, rfl⟩
set_option maxRecDepth 100000 in
set_option maxHeartbeats 4000000 in
theorem place_1 (addr : Int) (ha : 0 ≤ addr ∧ addr < 4294967296) (w : World) : Calls Try.prog 54 #[.int .u32 addr, .int .i64 1] w (Ret fun v w' => v = .tuple #[.int .u32 (addr / 16), .int .i64 (addr % 16), .bool (decide (addr % 1 = 0))] ∧ w' = w) := by
 refine Zen 32 Try.func54 ?_
 refine Zsr ?_
 refine Za ?_
 refine Za ?_
 refine Za ?_
 refine Znn ?_
 refine Zsr ?_
 refine Zm ?_
 refine Zv (.bool true) (fun _ fr => x_eql rfl (fr.ev rfl) rfl rfl) ?_
 refine Zm ?_
 refine Zs ?_
 refine Zs ?_
 refine Zpt ?_
 refine Zm ?_
 refine Zs ?_
 refine Zs ?_
 refine Zpt ?_
 refine Zm ?_
 refine Zm ?_
 refine Zm ?_
 refine Zv (.int .i64 1) (fun _ fr => x_max rfl (fr.ev rfl) rfl (r := 1) (by decide)) ?_
 refine Zv (.int .u32 1) (fun _ fr => x_convert Try.underlying3 Try.underlying32 rfl (fr.ev rfl) rfl) ?_
 refine Zv (.int .u32 (addr % 1)) (fun _ fr => x_rem rfl (fr.ev rfl) (fr.ev rfl) (by decide) (rem_nn (by omega))) ?_
 refine Zv _ (fun _ fr => x_eql rfl (fr.ev rfl) rfl rfl) ?_
 refine Zpt ?_
 refine Za ?_
 refine Znn ?_
 refine Zsr ?_
 refine Zm ?_
 refine Zv (.int .u32 (addr / 16)) (fun _ fr => x_quo rfl (fr.ev rfl) rfl (by decide) (u32q (by omega) (by decide))) ?_
 refine Zm ?_
 refine Zv (.int .u32 (addr % 16)) (fun _ fr => x_rem rfl (fr.ev rfl) rfl (by decide) (rem_nn (by omega))) ?_
 refine Zv _ (fun _ fr => x_convert Try.underlying32 Try.underlying3 rfl (fr.ev rfl) (i64w (r := addr % 16) rfl (by omega))) ?_
 refine Zm ?_
 refine Za ?_
 refine Za ?_
 refine Za ?_
 refine Znn ?_
 refine Zrt ?_
 refine Zre rfl [_, _, _] ⟨rfl, rfl, rfl, trivial⟩ ?_
 exact ⟨_, rfl, rfl, rfl⟩
set_option maxRecDepth 100000 in
set_option maxHeartbeats 4000000 in
theorem place_2 (addr : Int) (ha : 0 ≤ addr ∧ addr < 4294967296) (w : World) : Calls Try.prog 54 #[.int .u32 addr, .int .i64 2] w (Ret fun v w' => v = .tuple #[.int .u32 (addr / 16), .int .i64 (addr % 16), .bool (decide (addr % 2 = 0))] ∧ w' = w) := by
 refine Zen 32 Try.func54 ?_
 refine Zsr ?_
 refine Za ?_
 refine Za ?_
 refine Za ?_
 refine Znn ?_
 refine Zsr ?_
 refine Zm ?_
 refine Zv (.bool false) (fun _ fr => x_eql rfl (fr.ev rfl) rfl rfl) ?_
 refine Zm ?_
 refine Zm ?_
 refine Zv (.bool true) (fun _ fr => x_eql rfl (fr.ev rfl) rfl rfl) ?_
 refine Zpf ?_
 refine Zm ?_
 refine Zs ?_
 refine Zs ?_
 refine Zpt ?_
 refine Zm ?_
 refine Zm ?_
 refine Zm ?_
 refine Zv (.int .i64 2) (fun _ fr => x_max rfl (fr.ev rfl) rfl (r := 2) (by decide)) ?_
 refine Zv (.int .u32 2) (fun _ fr => x_convert Try.underlying3 Try.underlying32 rfl (fr.ev rfl) rfl) ?_
 refine Zv (.int .u32 (addr % 2)) (fun _ fr => x_rem rfl (fr.ev rfl) (fr.ev rfl) (by decide) (rem_nn (by omega))) ?_
 refine Zv _ (fun _ fr => x_eql rfl (fr.ev rfl) rfl rfl) ?_
 refine Zpt ?_
 refine Za ?_
 refine Znn ?_
 refine Zsr ?_
 refine Zm ?_
 refine Zv (.int .u32 (addr / 16)) (fun _ fr => x_quo rfl (fr.ev rfl) rfl (by decide) (u32q (by omega) (by decide))) ?_
 refine Zm ?_
 refine Zv (.int .u32 (addr % 16)) (fun _ fr => x_rem rfl (fr.ev rfl) rfl (by decide) (rem_nn (by omega))) ?_
 refine Zv _ (fun _ fr => x_convert Try.underlying32 Try.underlying3 rfl (fr.ev rfl) (i64w (r := addr % 16) rfl (by omega))) ?_
 refine Zm ?_
 refine Za ?_
 refine Za ?_
 refine Za ?_
 refine Znn ?_
 refine Zrt ?_
 refine Zre rfl [_, _, _] ⟨rfl, rfl, rfl, trivial⟩ ?_
 exact ⟨_, rfl, rfl, rfl⟩
set_option maxRecDepth 100000 in
set_option maxHeartbeats 4000000 in
theorem place_4 (addr : Int) (ha : 0 ≤ addr ∧ addr < 4294967296) (w : World) : Calls Try.prog 54 #[.int .u32 addr, .int .i64 4] w (Ret fun v w' => v = .tuple #[.int .u32 (addr / 16), .int .i64 (addr % 16), .bool (decide (addr % 4 = 0))] ∧ w' = w) := by
 refine Zen 32 Try.func54 ?_
 refine Zsr ?_
 refine Za ?_
 refine Za ?_
 refine Za ?_
 refine Znn ?_
 refine Zsr ?_
 refine Zm ?_
 refine Zv (.bool false) (fun _ fr => x_eql rfl (fr.ev rfl) rfl rfl) ?_
 refine Zm ?_
 refine Zm ?_
 refine Zv (.bool false) (fun _ fr => x_eql rfl (fr.ev rfl) rfl rfl) ?_
 refine Zpf ?_
 refine Zm ?_
 refine Zm ?_
 refine Zv (.bool true) (fun _ fr => x_eql rfl (fr.ev rfl) rfl rfl) ?_
 refine Zpf ?_
 refine Zm ?_
 refine Zm ?_
 refine Zm ?_
 refine Zv (.int .i64 4) (fun _ fr => x_max rfl (fr.ev rfl) rfl (r := 4) (by decide)) ?_
 refine Zv (.int .u32 4) (fun _ fr => x_convert Try.underlying3 Try.underlying32 rfl (fr.ev rfl) rfl) ?_
 refine Zv (.int .u32 (addr % 4)) (fun _ fr => x_rem rfl (fr.ev rfl) (fr.ev rfl) (by decide) (rem_nn (by omega))) ?_
 refine Zv _ (fun _ fr => x_eql rfl (fr.ev rfl) rfl rfl) ?_
 refine Zpt ?_
 refine Za ?_
 refine Znn ?_
 refine Zsr ?_
 refine Zm ?_
 refine Zv (.int .u32 (addr / 16)) (fun _ fr => x_quo rfl (fr.ev rfl) rfl (by decide) (u32q (by omega) (by decide))) ?_
 refine Zm ?_
 refine Zv (.int .u32 (addr % 16)) (fun _ fr => x_rem rfl (fr.ev rfl) rfl (by decide) (rem_nn (by omega))) ?_
 refine Zv _ (fun _ fr => x_convert Try.underlying32 Try.underlying3 rfl (fr.ev rfl) (i64w (r := addr % 16) rfl (by omega))) ?_
 refine Zm ?_
 refine Za ?_
 refine Za ?_
 refine Za ?_
 refine Znn ?_
 refine Zrt ?_
 refine Zre rfl [_, _, _] ⟨rfl, rfl, rfl, trivial⟩ ?_
 exact ⟨_, rfl, rfl, rfl⟩
end Go.Proofs.Ytflnlmibkbojcaa
namespace Go.Proofs.Ytflnlmibkbojcaa
open Go.RowKit
def rdI (bs : List Int) (p : Nat) : Nat → Int
  | 0 => 0
  | i + 1 => rdI bs p i + bs.getD (p + i) 0 * 256 ^ i
def wrL (bs : List Int) (p : Nat) (v : Int) : Nat → List Int
  | 0 => bs
  | i + 1 => (wrL bs p v i).set (p + i) (v / 256 ^ i % 256)
theorem getD_bd {l : List Int} (h : ∀ a ∈ l, 0 ≤ a ∧ a < 256) (j : Nat) : 0 ≤ l.getD j 0 ∧ l.getD j 0 < 256 := by
  by_cases hj : j < l.length
  · have e : l.getD j 0 = l[j] := by simp [List.getD, hj]
    rw [e]
    exact h _ (List.getElem_mem hj)
  · have e : l.getD j 0 = 0 := by simp [List.getD, List.getElem?_eq_none (show l.length ≤ j by omega)]
    rw [e]
    omega
theorem rdI_bd {l : List Int} (h : ∀ a ∈ l, 0 ≤ a ∧ a < 256) (p : Nat) : ∀ i, 0 ≤ rdI l p i ∧ rdI l p i < 256 ^ i
  | 0 => by simp [rdI]
  | i + 1 => by
    have h1 := rdI_bd h p i
    have h2 := getD_bd h (p + i)
    have h3 : (0 : Int) < 256 ^ i := Int.pow_pos (by decide)
    simp only [rdI]
    rw [Int.pow_succ]
    have h4 : 0 ≤ l.getD (p + i) 0 * 256 ^ i := Int.mul_nonneg h2.1 (by omega)
    have h5 : l.getD (p + i) 0 * 256 ^ i ≤ 255 * 256 ^ i := Int.mul_le_mul_of_nonneg_right (by omega) (by omega)
    omega
theorem wrL_len (bs : List Int) (p : Nat) (v : Int) : ∀ i, (wrL bs p v i).length = bs.length
  | 0 => rfl
  | i + 1 => by rw [wrL, List.length_set, wrL_len]
theorem wrL_bd {bs : List Int} (h : ∀ a ∈ bs, 0 ≤ a ∧ a < 256) (p : Nat) (v : Int) : ∀ i, ∀ a ∈ wrL bs p v i, 0 ≤ a ∧ a < 256
  | 0 => h
  | i + 1 => fun a ha => by
    rcases List.mem_or_eq_of_mem_set ha with ha | rfl
    · exact wrL_bd h p v i a ha
    · have h1 := Int.emod_nonneg (v / 256 ^ i) (show (256 : Int) ≠ 0 by decide)
      have h2 := Int.emod_lt_of_pos (v / 256 ^ i) (show (0 : Int) < 256 by decide)
      omega
def wrB (b : B16) (p : Nat) (v : Int) (i : Nat) : B16 := ⟨wrL b.1 p v i, by rw [wrL_len]; exact b.2.1, wrL_bd b.2.2 p v i⟩
theorem or_hi {m q : Nat} {j : Nat} (h : m < 2 ^ j) : m ||| q * 2 ^ j = m + q * 2 ^ j := by
  rw [Nat.or_comm, ← Nat.shiftLeft_eq, ← Nat.shiftLeft_add_eq_or_of_lt h, Nat.add_comm]
theorem rd_or (b : B16) (p j : Nat) (hj : j < 4) : IntKind.u32.wrap (BitVec.ofInt IntKind.u32.bits (rdI b.1 p j) ||| BitVec.ofInt IntKind.u32.bits (b.1.getD (p + j) 0 * 256 ^ j)).toNat = rdI b.1 p (j + 1) := by
  have h1 := rdI_bd b.2.2 p j
  have h2 := getD_bd b.2.2 (p + j)
  have h3 := rdI_bd b.2.2 p (j + 1)
  have e0 : rdI b.1 p (j + 1) = rdI b.1 p j + b.1.getD (p + j) 0 * 256 ^ j := rfl
  rw [e0] at h3 ⊢
  obtain ⟨m, hm⟩ := Int.eq_ofNat_of_zero_le h1.1
  obtain ⟨q, hq⟩ := Int.eq_ofNat_of_zero_le h2.1
  rw [hm] at h1 h3 ⊢
  rw [hq] at h2 h3 ⊢
  have e1 : ((m : Nat) : Int) + ((q : Nat) : Int) * 256 ^ j = ((m + q * 2 ^ (8 * j) : Nat) : Int) := by
    push_cast
    rw [Int.pow_mul]
    rfl
  have e2 : ((q : Nat) : Int) * 256 ^ j = ((q * 2 ^ (8 * j) : Nat) : Int) := by
    push_cast
    rw [Int.pow_mul]
    rfl
  have hb : (256 : Int) ^ (j + 1) ≤ 4294967296 := by
    rcases (show j = 0 ∨ j = 1 ∨ j = 2 ∨ j = 3 by omega) with rfl | rfl | rfl | rfl <;> decide
  have hm8 : m < 2 ^ (8 * j) := by
    have : ((m : Nat) : Int) < ((2 ^ (8 * j) : Nat) : Int) := by
      push_cast
      rw [Int.pow_mul]
      exact h1.2
    omega
  rw [e1] at h3 ⊢
  rw [e2]
  show IntKind.u32.wrap ((BitVec.ofInt 32 ((m : Nat) : Int)) ||| (BitVec.ofInt 32 ((q * 2 ^ (8 * j) : Nat) : Int))).toNat = _
  rw [BitVec.ofInt_natCast, BitVec.ofInt_natCast, BitVec.toNat_or, BitVec.toNat_ofNat, BitVec.toNat_ofNat, Nat.mod_eq_of_lt (show m < 2 ^ 32 by omega), Nat.mod_eq_of_lt (show q * 2 ^ (8 * j) < 2 ^ 32 by omega), or_hi hm8]
  exact u32w rfl (by omega)
theorem sh_up {m : Int} {j : Nat} (hm : 0 ≤ m ∧ m < 256) (hj : j < 4) : IntKind.u32.wrap (m * 2 ^ min (((8 * j : Nat) : Int)).toNat IntKind.u32.bits) = m * 256 ^ j := by
  rcases (show j = 0 ∨ j = 1 ∨ j = 2 ∨ j = 3 by omega) with rfl | rfl | rfl | rfl
  all_goals
    simp [IntKind.bits]
    exact u32w rfl (by omega)
theorem ln_cell (x : Ln) {j : Nat} (hj : j < 16) : (lnE.arr x)[2 + j]? = some (.int .u8 (x.bs.1.getD j 0)) := by
  have hl := x.bs.2.1
  simp only [Enc.arr, List.getElem?_toArray]
  show (x.cells)[2 + j]? = _
  rw [Nat.add_comm]
  simp [Ln.cells, List.getD, List.getElem?_eq_getElem (show j < x.bs.1.length by omega)]
def rightA (addr width : Int) : Bool := (decide (width = 1) || decide (width = 2) || decide (width = 4)) && decide (addr % width = 0)
theorem rightA_yes {addr width : Int} (ha : 0 ≤ addr) (h : rightA addr width = true) : 1 ≤ width ∧ width ≤ 4 ∧ addr % 16 + width ≤ 16 := by
  simp [rightA] at h
  obtain ⟨(h1 | h1) | h1, h2⟩ := h <;> subst h1 <;> omega
theorem place_c (addr width : Int) (ha : 0 ≤ addr ∧ addr < 4294967296) (w : World) : Calls Try.prog 54 #[.int .u32 addr, .int .i64 width] w (Ret fun v w' => v = .tuple #[.int .u32 (addr / 16), .int .i64 (addr % 16), .bool (rightA addr width)] ∧ w' = w) := by
  by_cases h1 : width = 1
  · subst h1
    refine (place_1 addr ha w).mono ?_
    rintro e w' ⟨v, rfl, rfl, rfl⟩
    exact ⟨_, rfl, by simp [rightA], rfl⟩
  by_cases h2 : width = 2
  · subst h2
    refine (place_2 addr ha w).mono ?_
    rintro e w' ⟨v, rfl, rfl, rfl⟩
    exact ⟨_, rfl, by simp [rightA], rfl⟩
  by_cases h4 : width = 4
  · subst h4
    refine (place_4 addr ha w).mono ?_
    rintro e w' ⟨v, rfl, rfl, rfl⟩
    exact ⟨_, rfl, by simp [rightA], rfl⟩
  refine (place_no addr ha width h1 h2 h4 w).mono ?_
  rintro e w' ⟨v, rfl, rfl, rfl⟩
  exact ⟨_, rfl, by simp [rightA, h1, h2, h4], rfl⟩
def readF (L : List Ln) (addr width : Int) : Int × Int :=
  if rightA addr width = false then (0, 2) else match getN L (addr / 16) with
    | none => (0, 232)
    | some x => (rdI x.bs.1 (addr % 16).toNat width.toNat, 0)
def wrLn (x : Ln) (addr width v : Int) : Ln := { x with bs := wrB x.bs (addr % 16).toNat v width.toNat, state := 3 }
def writeF (d : CD) (addr width v : Int) : CD × Int :=
  if rightA addr width = false then (d, 2) else if writesB (stateOf d.L (addr / 16)) = false then (d, 232)
  else ({ d with L := putL d.n d.ways d.L (wrLn ((getN d.L (addr / 16)).getD ln0) addr width v) }, 0)
theorem get_num {L : List Ln} {num : Int} {x : Ln} (h : getN L num = some x) : x.num = num := by
  have := List.find?_some h
  simpa [isNum] using this
theorem w_there {L : List Ln} {num : Int} (h : writesB ((getN L num).getD ln0).state = true) : ∃ y, getN L num = some y ∧ (getN L num).getD ln0 = y := by
  cases hg : getN L num with
  | none => rw [hg] at h; exact absurd h (by decide)
  | some y => exact ⟨y, rfl, rfl⟩
theorem put_there {n : Nat} {ways : Int} {L : List Ln} {num : Int} (h : writesB ((getN L num).getD ln0).state = true) (x : Ln) (h1 : x.num = ((getN L num).getD ln0).num) (h2 : x.state = 3) : putE n ways L x = 0 := by
  obtain ⟨y, hy, hd⟩ := w_there h
  have hn : x.num = num := by rw [h1, hd]; exact get_num hy
  have ho : ¬ okS x = false := by simp [okS, h2]
  unfold putE
  rw [if_neg ho, if_neg (fun hh => by rw [hn, hy] at hh; cases hh.1)]
def HasRoom (n : Nat) (ways : Int) (L : List Ln) (num : Int) : Prop := getN L num = none → ((ofs n L (si n num)).length : Int) < ways
def RoomOk (d : CD) : Prop := ∀ l wr, d.ask = some (l, wr) → HasRoom d.n d.ways d.L l
end Go.Proofs.Ytflnlmibkbojcaa
namespace Go.Proofs.Ytflnlmibkbojcaa
open Go.RowKit
set_option maxRecDepth 100000 in
set_option maxHeartbeats 4000000 in
theorem read_c (addr : Int) (ha : 0 ≤ addr ∧ addr < 4294967296) (width : Int) {w : World} {b lb : Nat} {id : Int} {pa pg : Value} {FpL : Nat → Prop} {n : Nat} {ways : Int} {L : List Ln} (hB : Blk w b 83 #[.int .i64 id, .pointer (some ⟨lb, 0, none⟩), pa, pg]) (hL : LinesAt w FpL lb n ways L) (ap_FpL_b : ¬ FpL b)  : Calls Try.prog 17 #[.pointer (some ⟨b, 0, none⟩), .int .u32 addr, .int .i64 width] w (Ret fun v w' => v = .tuple #[.int .u32 (readF L addr width).1, .int .i64 (readF L addr width).2] ∧ New w w') := by
 obtain ⟨hn1, hn2, hw1, hw2⟩ := hL.bd
 have hF := Only.refl (fun _ => False) w
 refine Zen 55 Try.func17 ?_
 refine Zsr ?_
 refine Za ?_
 refine Za ?_
 refine Znn ?_
 refine Zsq ?_
 refine Zsr ?_
 refine Zm ?_
 refine Zk cf43 (cnone_c hB) ?_
 rintro v w9 ⟨rfl, hw9⟩
 obtain rfl := hw9.symm
 refine Znn ?_
 refine Zcf ?_
 refine Zsk ?_
 refine Znx ?_
 refine Zsr ?_
 refine Zm ?_
 refine Zm ?_
 refine Zk (args := #[.int .u32 addr, .int .i64 width]) cf54 (place_c addr width (by omega) _) ?_
 rintro v w9 ⟨rfl, hw9⟩
 obtain rfl := hw9.symm
 refine Zm ?_
 refine Zt ?_
 refine Zt ?_
 refine Zt ?_
 refine Za ?_
 refine Za ?_
 refine Za ?_
 refine Znn ?_
 refine Zsq ?_
 refine Zsr ?_
 refine Zm ?_
 refine Zv _ (fun _ fr => x_not rfl (fr.ev rfl) rfl) ?_
 refine Znn ?_
 refine Zcd (fun hc5 => ?_) (fun hc5 => ?_)
 ·refine Zsr ?_
  refine Za ?_
  refine Za ?_
  refine Znn ?_
  refine Zrt ?_
  refine Zr1 ?_
  refine Zre rfl [_, _] ⟨rfl, rfl, trivial⟩ ?_
  have hq : readF L addr width = (0, 2) := by unfold readF; rw [if_pos (by simpa using hc5)]
  rw [hq]
  exact ⟨_, rfl, rfl, hF⟩
 ·refine Zsk ?_
  refine Znx ?_
  refine Zsq ?_
  have hrt : rightA addr width = true := by simpa using hc5
  have hrd := rightA_yes (by omega) hrt
  refine Zrg ?_
  refine Zm ?_
  refine Zn ?_
  refine Zf fo83_1 ?_
  refine Zd pl79 (hB.cell 1 rfl) ?_
  refine Zm ?_
  refine Zk (args := #[.pointer (some ⟨lb, 0, none⟩), .int .u32 (addr / 16)]) cf55 (find_c (addr / 16) (by omega) hL) ?_
  rintro v w6 ⟨rfl, hN7⟩
  refine Zm ?_
  refine Zt ?_
  refine Zt ?_
  refine Zna (z := zv1) (cs := lnE.arr ln0) (by kernel_rfl) fun b8 w9 hN10 B11 hb12 => ?_
  replace hB := hB.new hN7
  have ne_b_b8 : NE b b8 := NE.mk (Nat.lt_of_lt_of_le hB.lt hb12)
  replace hL := hL.new hN7
  have ap_FpL_b8 : ¬ FpL b8 := hL.apart hb12
  replace hF := hF.trNew hN7
  have g_b8 := Nat.le_trans hF.size hb12
  refine ZsS sz39 (lnE.all _) B11 (lnE.size _) (lnE.size _) fun w13 hO14 hBq => ?_
  replace B11 := hBq
  clear hBq
  refine Za ?_
  refine Znn ?_
  refine Zsq ?_
  refine Zsr ?_
  refine Zm ?_
  refine Zv _ (fun _ fr => x_not rfl (fr.ev rfl) rfl) ?_
  refine Znn ?_
  refine Zcd (fun hc15 => ?_) (fun hc15 => ?_)
  ·refine Zsr ?_
   refine Za ?_
   refine Za ?_
   refine Znn ?_
   refine Zrt ?_
   refine Zr1 ?_
   refine Zre rfl [_, _] ⟨rfl, rfl, trivial⟩ ?_
   have hnr : ¬ rightA addr width = false := by rw [hrt]; decide
   have hq : readF L addr width = (0, 232) := by unfold readF; rw [if_neg hnr]; cases hg : getN L (addr / 16) with
   | none => rfl
   | some x => simp [hg] at hc15
   rw [hq]
   replace hF := (hF.trNew hN10).loc hO14 (.inr g_b8)
   exact ⟨_, rfl, rfl, hF⟩
  ·refine Zsk ?_
   refine Znx ?_
   refine Zsr ?_
   refine Za ?_
   refine Znn ?_
   refine Zsq ?_
   refine Zsr ?_
   refine Zm ?_
   refine Zm ?_
   refine Znn ?_
   refine Zbl ?_
   intro a fr
   replace hB := (hB.new hN10).only hO14 ne_b_b8
   replace hL := (hL.new hN10).only hO14 (ne1P ap_FpL_b8)
   replace hF := (hF.trNew hN10).loc hO14 (.inr g_b8)
   refine fx_loop (fun nM a wL => ∃ j : Nat, nM = (width - j).toNat ∧ Fr (55, []) [(0, .pointer (some ⟨b, 0, none⟩)), (1, .int .u32 addr), (2, .int .i64 width), (8, .int .u32 (addr / 16)), (9, .int .i64 (addr % 16)), (11, .pointer (some ⟨b8, 0, none⟩)), (37, .int .i64 width), (13, .int .u32 (rdI ((getN L (addr / 16)).getD ln0).bs.1 (addr % 16).toNat j)), (38, .int .i64 ((j : Nat) : Int))] a ∧ Only (fun _ => False) w wL ∧ Blk wL b 83 #[.int .i64 id, .pointer (some ⟨lb, 0, none⟩), pa, pg] ∧ LinesAt wL FpL lb n ways L ∧ Blk wL b8 39 (lnE.arr ((getN L (addr / 16)).getD ln0)) ∧ ((j : Nat) : Int) ≤ width) (n0 := _) ⟨0, rfl, fr.sub ⟨rfl, rfl, rfl, rfl, rfl, rfl, rfl, rfl, rfl, trivial⟩, hF, hB, hL, B11, by omega⟩ ?_
   clear fr a
   rintro n17 a w16 ⟨j, rfl, fr, hF, hB, hL, B11, hj⟩
   revert a
   refine Zsr ?_
   refine Zv _ (fun _ fr => x_lss rfl (fr.ev rfl) (fr.ev rfl) rfl) ?_
   refine Znn ?_
   refine Zsq ?_
   refine Zcd (fun hc18 => ?_) (fun hc18 => ?_)
   ·have hc18 := of_decide_eq_true hc18
    refine Zsk ?_
    refine Znx ?_
    refine Zsq ?_
    refine Zbl ?_
    refine Zsr ?_
    refine Zm ?_
    refine Za ?_
    refine Znn ?_
    refine Zrg ?_
    refine Zm ?_
    refine Zm ?_
    refine Zm ?_
    refine Zv _ (fun _ fr => x_add rfl (fr.ev rfl) (fr.ev rfl) (i64w (r := ((((addr % 16).toNat) + j : Nat) : Int)) (by omega) (by omega))) ?_
    refine Zf fo39_2 ?_
    refine Zv (.pointer (some ⟨b8, 2 + (((addr % 16).toNat) + j), none⟩)) (fun _ fr => x_indexArr Try.underlying22 sz16 rfl (fr.ev rfl) (fr.ev rfl) (by omega) (show 2 + (((addr % 16).toNat) + j) * 1 = 2 + (((addr % 16).toNat) + j) by omega)) ?_
    refine Zd (v := .int .u8 (((getN L (addr / 16)).getD ln0).bs.1.getD (((addr % 16).toNat) + j) 0)) pl5 (B11.cell _ (ln_cell ((getN L (addr / 16)).getD ln0) (j := ((addr % 16).toNat) + j) (by omega))) ?_
    refine Zv (.int .u32 (((getN L (addr / 16)).getD ln0).bs.1.getD (((addr % 16).toNat) + j) 0)) (fun _ fr => x_convert Try.underlying5 Try.underlying32 rfl (fr.ev rfl) (u32w (r := ((getN L (addr / 16)).getD ln0).bs.1.getD (((addr % 16).toNat) + j) 0) rfl (by have := getD_bd ((getN L (addr / 16)).getD ln0).bs.2.2 (((addr % 16).toNat) + j); omega))) ?_
    refine Zm ?_
    refine Zv _ (fun _ fr => x_mul rfl rfl (fr.ev rfl) (i64w (r := ((8 * j : Nat) : Int)) (by omega) (by omega))) ?_
    refine Zv (.int .u32 (((getN L (addr / 16)).getD ln0).bs.1.getD (((addr % 16).toNat) + j) 0 * 256 ^ j)) (fun _ fr => x_shl rfl (fr.ev rfl) (fr.ev rfl) (by omega) (sh_up (getD_bd ((getN L (addr / 16)).getD ln0).bs.2.2 (((addr % 16).toNat) + j)) (by omega))) ?_
    refine Zv (.int .u32 (rdI ((getN L (addr / 16)).getD ln0).bs.1 (addr % 16).toNat (j + 1))) (fun _ fr => x_or rfl (fr.ev rfl) (fr.ev rfl) (rd_or ((getN L (addr / 16)).getD ln0).bs (addr % 16).toNat j (by omega))) ?_
    refine Za ?_
    refine Znl ?_
    refine Zb ?_
    refine Znx ?_
    refine Zrg ?_
    refine Zv _ (fun _ fr => x_add rfl (fr.ev rfl) rfl (i64w (r := ((j + 1 : Nat) : Int)) (by omega) (by omega))) ?_
    refine Zm ?_
    intro a fr
    refine wpList_nil ?_
    refine fx_next ?_
    exact ⟨_, by omega, (j + 1), rfl, fr.sub ⟨rfl, rfl, rfl, rfl, rfl, rfl, rfl, rfl, rfl, trivial⟩, hF, hB, hL, B11, by omega⟩
   ·have hc18 := of_decide_eq_false hc18
    refine Zex ?_
    refine Zxt ?_
    refine Zxt ?_
    refine Zxx ?_
    refine Znx ?_
    refine Zsr ?_
    refine Zm ?_
    refine Za ?_
    refine Za ?_
    refine Znn ?_
    refine Zrt ?_
    refine Zre rfl [_, _] ⟨rfl, rfl, trivial⟩ ?_
    have hnr : ¬ rightA addr width = false := by rw [hrt]; decide
    obtain rfl : j = width.toNat := by omega
    have hq : readF L addr width = (rdI ((getN L (addr / 16)).getD ln0).bs.1 (addr % 16).toNat width.toNat, 0) := by unfold readF; rw [if_neg hnr]; cases hg : getN L (addr / 16) with
    | none => simp [hg] at hc15
    | some x => rfl
    rw [hq]
    exact ⟨_, rfl, rfl, hF⟩
end Go.Proofs.Ytflnlmibkbojcaa
namespace Go.Proofs.Ytflnlmibkbojcaa
open Go.RowKit
section
variable {n : Nat} {ways : Int} {L : List Ln} {num k : Int} {x : Ln}
theorem mem_of_get (h : getN L num = some x) : x ∈ L := List.mem_of_find?_eq_some h
theorem drop_lt {l : List Ln} (h : ∃ y ∈ l, y.num = num) : (dropL l num).length < l.length := by
  unfold dropL
  induction l with
  | nil => obtain ⟨y, hy, _⟩ := h; cases hy
  | cons z r ih =>
    by_cases hz : z.num = num
    · rw [List.filter_cons_of_neg (by simp [isNum, hz])]
      have := List.length_filter_le (fun x => !isNum num x) r
      simp only [List.length_cons]
      omega
    · rw [List.filter_cons_of_pos (by simp [isNum, hz])]
      obtain ⟨y, hy, he⟩ := h
      rcases List.mem_cons.1 hy with rfl | hy
      · exact absurd he hz
      · have := ih ⟨y, hy, he⟩
        simp only [List.length_cons]
        omega
theorem get_drop : getN (dropL L k) num = if num = k then none else getN L num := by
  unfold getN dropL
  induction L with
  | nil => simp
  | cons z r ih =>
    by_cases hz : z.num = k
    · rw [List.filter_cons_of_neg (by simp [isNum, hz]), ih]
      by_cases hn : num = k
      · simp [hn]
      · have : isNum num z = false := by simp [isNum, hz]; exact fun e => hn e.symm
        simp [hn, List.find?, this]
    · rw [List.filter_cons_of_pos (by simp [isNum, hz])]
      by_cases hn : num = k
      · have : isNum num z = false := by simp [isNum, hn, hz]
        simp only [List.find?, this, ih]
        try simp [hn]
      · simp only [List.find?, ih, if_neg hn]
theorem get_repl (h : getN L x.num ≠ none) : getN (repl x L) num = if num = x.num then some x else getN L num := by
  unfold getN at *
  induction L with
  | nil => simp at h
  | cons z r ih =>
    by_cases hz : z.num = x.num
    · simp only [repl, if_pos hz]
      by_cases hn : num = x.num
      · simp [hn, List.find?, isNum]
      · have h1 : isNum num x = false := by simp [isNum]; exact fun e => hn e.symm
        have h2 : isNum num z = false := by simp [isNum, hz]; exact fun e => hn e.symm
        simp [hn, List.find?, h1, h2]
    · simp only [repl, if_neg hz]
      have h3 : isNum x.num z = false := by simp [isNum, hz]
      rw [List.find?, h3] at h
      by_cases hn : num = x.num
      · have : isNum num z = false := by simp [isNum, hn, hz]
        simp only [List.find?, this, ih h]
      · simp only [List.find?, ih h, if_neg hn]
theorem mem_ofs (h : x ∈ L) : x ∈ ofs n L (si n x.num) := List.mem_filter.2 ⟨h, by simp [inSet]⟩
theorem HasRoom.drop (hn : 0 < n) (hf : Fits n ways L) (h : HasRoom n ways L num) (k : Int) : HasRoom n ways (dropL L k) num := by
  intro h1
  rw [ofs_drop]
  have h2 := dropL_le (ofs n L (si n num)) k
  have h3 := hf _ (si_lt (num := num) hn)
  cases hg : getN L num with
  | none => have := h hg; omega
  | some y =>
    rw [get_drop, hg] at h1
    split at h1
    · rename_i e
      subst e
      have hy := get_num hg
      have := drop_lt (num := num) (l := ofs n L (si n num)) ⟨y, by have := mem_ofs (n := n) (mem_of_get hg); rwa [hy] at this, hy⟩
      omega
    · cases h1
theorem putL_there (h : getN L x.num ≠ none) (he : putE n ways L x = 0) : putL n ways L x = repl x L := by
  unfold putL
  rw [if_pos he, if_neg h]
theorem HasRoom.repl (h : HasRoom n ways L num) (hx : getN L x.num ≠ none) : HasRoom n ways (repl x L) num := by
  intro h1
  rw [get_repl hx] at h1
  split at h1
  · cases h1
  · by_cases e : si n num = si n x.num
    · rw [e, ofs_repl_same, repl_len, ← e]; exact h h1
    · rw [ofs_repl_other _ _ e]; exact h h1
theorem room_vic (h : vicL n ways L num k = none) : HasRoom n ways L num := by
  intro h1
  unfold vicL at h
  split at h
  · cases h
  · rename_i h2
    have : ¬ ways ≤ ((ofs n L (si n num)).length : Int) := fun h3 => h2 ⟨h1, h3⟩
    omega
theorem vic_mem (hw : 1 ≤ ways) (h : vicL n ways L num k = some x) : x ∈ ofs n L (si n num) ∧ getN L num = none ∧ ways ≤ ((ofs n L (si n num)).length : Int) := by
  unfold vicL at h
  split at h
  · rename_i h2
    cases h
    refine ⟨?_, h2⟩
    have hl : 0 < (ofs n L (si n num)).length := by omega
    have hp := pickAt_lt k _ hl
    simp [List.getD, hp]
  · cases h
theorem room_out (hn : 0 < n) (hw : 1 ≤ ways) (hf : Fits n ways L) (h : vicL n ways L num k = some x) : HasRoom n ways (dropL L x.num) num := by
  intro _
  obtain ⟨h1, h2, h3⟩ := vic_mem hw h
  rw [ofs_drop]
  have h4 := drop_lt (num := x.num) (l := ofs n L (si n num)) ⟨x, h1, rfl⟩
  have h5 := hf _ (si_lt (num := num) hn)
  omega
end
section
variable {d : CD} (hb : 0 < d.n ∧ d.n ≤ 64 ∧ 1 ≤ d.ways ∧ d.ways ≤ 8) (hf : Fits d.n d.ways d.L) (hr : RoomOk d)
include hf hr
theorem RoomOk.drop (hb : 0 < d.n ∧ d.n ≤ 64 ∧ 1 ≤ d.ways ∧ d.ways ≤ 8) (k : Int) (g : Option Ln) : RoomOk { d with L := dropL d.L k, giv := g } := fun l wr h => (hr l wr h).drop hb.1 hf k
include hb
omit hb hf in
theorem write_room (addr width v : Int) : RoomOk (writeF d addr width v).1 := by
  unfold writeF
  split
  · exact hr
  · split
    · exact hr
    · rename_i h
      have h : writesB ((getN d.L (addr / 16)).getD ln0).state = true := by simpa [stateOf] using h
      intro l wr hl
      have hx : getN d.L (wrLn ((getN d.L (addr / 16)).getD ln0) addr width v).num ≠ none := by
        obtain ⟨y, hy, hd⟩ := w_there h
        show getN d.L ((getN d.L (addr / 16)).getD ln0).num ≠ none
        rw [hd, get_num hy, hy]
        simp
      show HasRoom d.n d.ways (putL d.n d.ways d.L _) l
      rw [putL_there hx (put_there h _ rfl rfl)]
      exact (hr l wr hl).repl hx
theorem ask_room (line : Int) (hln : 0 ≤ line ∧ line < 4294967296) (wr : Bool) (pick : Int) : RoomOk (askF d line hln wr pick).1 := by
  unfold askF
  split
  · exact hr
  · split
    · exact hr
    · split
      · rename_i hv
        intro l w' h
        cases h
        exact room_vic hv
      · rename_i x hv
        split
        · intro l w' h
          cases h
          show HasRoom (outF d x).1.n (outF d x).1.ways (outF d x).1.L line
          rename_i ho
          unfold outF at ho ⊢
          split
          · exact room_out hb.1 hb.2.2.1 hf hv
          · split
            · rename_i h1 _ _ h2
              rw [if_neg h1] at ho
              simp [h2] at ho
            · exact room_out hb.1 hb.2.2.1 hf hv
        · exact hr
theorem back_room (m : Msg) : RoomOk (takeF.backF d m).1 := by
  unfold takeF.backF
  split
  · rename_i h
    have h : writesB ((getN d.L m.line).getD ln0).state = true := h
    obtain ⟨y, hy, hd⟩ := w_there h
    rw [hd]
    by_cases hk : m.kind = 4
    · simp only [hk, if_true]
      intro l w' hl
      have hx : getN d.L ({ y with state := 1 } : Ln).num ≠ none := by
        show getN d.L y.num ≠ none
        rw [get_num hy, hy]
        simp
      have hp : putE d.n d.ways d.L { y with state := 1 } = 0 := by
        unfold putE
        rw [if_neg (by simp [okS]), if_neg (fun hh => hx hh.1)]
      show HasRoom d.n d.ways (putL d.n d.ways d.L { y with state := 1 }) l
      rw [putL_there hx hp]
      exact (hr l w' hl).repl hx
    · simp only [if_neg hk]
      exact RoomOk.drop hf hr hb y.num d.giv
  · exact hr
theorem take_room (m : Msg) : RoomOk (takeF d m).1 := by
  unfold takeF
  split
  · exact hr
  split
  · split
    · intro l w' h
      cases h
    · exact hr
  split
  · split
    · split
      · exact hr
      · exact back_room hb hf hr m
    · exact back_room hb hf hr m
  split
  · split
    · exact hr
    · exact RoomOk.drop hf hr hb m.line d.giv
  split
  · exact fun l w' h => hr l w' h
  · exact hr
omit hb hf in
theorem data_room (m : Msg) (h : dataOk d m = true) : putE d.n d.ways d.L (dataLn m) = 0 := by
  unfold dataOk at h
  split at h
  · rename_i l wr ha
    simp only [Bool.and_eq_true, decide_eq_true_eq] at h
    have h1 := hr l wr ha
    rw [h.1] at h1
    have ho : ¬ okS (dataLn m) = false := by
      simp only [okS, dataLn, mkL]
      split <;> decide
    have h2 : (dataLn m).num = m.line := rfl
    unfold putE
    rw [if_neg ho, if_neg]
    rintro ⟨h3, h4⟩
    rw [h2] at h3 h4
    have := h1 h3
    omega
  · cases h
omit hf hr hb in
theorem new_room (id : Int) (n : Nat) (ways : Int) : RoomOk ⟨id, n, ways, [], none, none⟩ := fun l w' h => by cases h
end
end Go.Proofs.Ytflnlmibkbojcaa
namespace Go.Proofs.Ytflnlmibkbojcaa
open Go.RowKit
structure RC where
  id : Int
  n : Int
  ways : Int
  A : Option Addr
  len : Nat
  cap : Nat
  ak : Bool
  al : Int
  aw : Bool
  gv : Bool
  gx : Ln
  deriving DecidableEq
def RC.cells (m : RC) : List Value := .int .i64 m.id :: .int .i64 m.n :: .int .i64 m.ways :: .slice m.A m.len m.cap :: .bool m.ak :: .int .u32 m.al :: .bool m.aw :: .bool m.gv :: m.gx.cells
theorem RC.len_ (m : RC) : m.cells.length = 26 := by simp [RC.cells, m.gx.len]
end Go.Proofs.Ytflnlmibkbojcaa
namespace Go.Proofs.Ytflnlmibkbojcaa
open Go.RowKit
def StOk (L : List Ln) : Prop := ∀ x ∈ L, 1 ≤ x.state ∧ x.state ≤ 3
section
variable {n : Nat} {ways : Int} {L : List Ln} {x : Ln}
theorem StOk.nil : StOk [] := fun x h => by cases h
theorem StOk.drop (h : StOk L) (k : Int) : StOk (dropL L k) := fun x hx => h x (List.mem_filter.1 hx).1
theorem StOk.putL (h : StOk L) (x : Ln) : StOk (putL n ways L x) := by
  unfold Go.Proofs.Ytflnlmibkbojcaa.putL
  split
  · rename_i he
    have hx : 1 ≤ x.state ∧ x.state ≤ 3 := by
      unfold putE at he
      split at he
      · omega
      · rename_i h2
        simp [okS] at h2
        omega
    split
    · intro y hy
      rcases List.mem_append.1 hy with hy | hy
      · exact h y hy
      · rw [List.mem_singleton] at hy
        subst hy
        exact hx
    · intro y hy
      rcases mem_repl hy with hy | rfl
      · exact h y hy
      · exact hx
  · exact h
end
structure DOk (d : CD) : Prop where
  id : 0 ≤ d.id ∧ d.id < 4
  bd : 0 < d.n ∧ d.n ≤ 64 ∧ 1 ≤ d.ways ∧ d.ways ≤ 8
  uniq : Uniq d.L
  fits : Fits d.n d.ways d.L
  room : RoomOk d
  st : StOk d.L
end Go.Proofs.Ytflnlmibkbojcaa
namespace Go.Proofs.Ytflnlmibkbojcaa
open Go.RowKit
section
variable {d : CD}
theorem DOk.new {id : Int} {n : Nat} {ways : Int} (hid : 0 ≤ id ∧ id < 4) (hb : 0 < n ∧ n ≤ 64 ∧ 1 ≤ ways ∧ ways ≤ 8) : DOk ⟨id, n, ways, [], none, none⟩ := ⟨hid, hb, List.Pairwise.nil, Fits.nil (by show 0 ≤ ways; omega), new_room id n ways, StOk.nil⟩
theorem DOk.drop (h : DOk d) (k : Int) (g : Option Ln) : DOk { d with L := dropL d.L k, giv := g } := ⟨h.id, h.bd, h.uniq.drop k, h.fits.drop k, RoomOk.drop h.fits h.room h.bd k g, h.st.drop k⟩
theorem DOk.out (h : DOk d) (x : Ln) : DOk (outF d x).1 := by
  unfold outF
  split
  · exact h.drop x.num d.giv
  · split
    · exact h
    · exact h.drop x.num (some x)
theorem DOk.evict (h : DOk d) (pick : Int) : DOk (evictF d pick).1 := by
  unfold evictF
  split
  · exact h
  · exact h.out _
theorem DOk.write (h : DOk d) (addr width v : Int) : DOk (writeF d addr width v).1 := by
  have hr := write_room h.room addr width v
  revert hr
  unfold writeF
  split
  · exact fun _ => h
  · split
    · exact fun _ => h
    · exact fun hr => ⟨h.id, h.bd, h.uniq.putL, h.fits.putL _, hr, h.st.putL _⟩
theorem DOk.ask (h : DOk d) (line : Int) (hl : 0 ≤ line ∧ line < 4294967296) (wr : Bool) (pick : Int) : DOk (askF d line hl wr pick).1 := by
  have hr := ask_room h.bd h.fits h.room line hl wr pick
  revert hr
  unfold askF
  split
  · exact fun _ => h
  · split
    · exact fun _ => h
    · split
      · exact fun hr => ⟨h.id, h.bd, h.uniq, h.fits, hr, h.st⟩
      · split
        · intro hr
          have ho := h.out ‹Ln›
          exact ⟨ho.id, ho.bd, ho.uniq, ho.fits, hr, ho.st⟩
        · exact fun _ => h
theorem DOk.back (h : DOk d) (m : Msg) : DOk (takeF.backF d m).1 := by
  have hr := back_room h.bd h.fits h.room m
  revert hr
  unfold takeF.backF
  split
  · by_cases k : m.kind = 4
    · simp only [k, if_true]
      exact fun hr => ⟨h.id, h.bd, h.uniq.putL, h.fits.putL _, hr, h.st.putL _⟩
    · simp only [if_neg k]
      exact fun _ => h.drop _ d.giv
  · exact fun _ => h
theorem DOk.take (h : DOk d) (m : Msg) : DOk (takeF d m).1 := by
  have hr := take_room h.bd h.fits h.room m
  revert hr
  unfold takeF
  split
  · exact fun _ => h
  split
  · split
    · exact fun hr => ⟨h.id, h.bd, h.uniq.putL, h.fits.putL _, hr, h.st.putL _⟩
    · exact fun _ => h
  split
  · split
    · split
      · exact fun _ => h
      · exact fun _ => h.back m
    · exact fun _ => h.back m
  split
  · split
    · exact fun _ => h
    · exact fun _ => h.drop m.line d.giv
  split
  · exact fun hr => ⟨h.id, h.bd, h.uniq, h.fits, hr, h.st⟩
  · exact fun _ => h
end
end Go.Proofs.Ytflnlmibkbojcaa
namespace Go.Proofs.Ytflnlmibkbojcaa
open Go.RowKit
def CacAt (w : World) (Fp : Nat → Prop) (b : Nat) (d : CD) : Prop := CacheAt w Fp b d ∧ DOk d
section
variable {w w' : World} {Fp T : Nat → Prop} {b D : Nat} {d : CD} {ask : Option (Int × Bool)} {giv : Option Ln} {p : Value}
theorem CacheAt.cells (h : CacheAt w Fp b d) {g : Nat} (hg : Fp g) : ∃ o : Obj, w.heap[g]? = some o ∧ o.isCells = true := by
  obtain ⟨lb, FpL, pa, pg, FpA, FpG, hB, hL, hA, hG, hP⟩ := h
  rcases (hP.foot g).1 hg with rfl | hg | hg | hg
  · exact hB.cells
  · exact hL.cells hg
  · exact hA.cells hg
  · exact hG.cells hg
theorem CacAt.only (h : CacAt w Fp b d) (k : Only T w w') (hs : ∀ g, Fp g → ¬ T g) : CacAt w' Fp b d := ⟨h.1.only k hs, h.2⟩
theorem CacAt.new (h : CacAt w Fp b d) (k : New w w') : CacAt w' Fp b d := ⟨h.1.new k, h.2⟩
theorem CacAt.lt (h : CacAt w Fp b d) {g : Nat} (hg : Fp g) : g < w.heap.size := h.1.lt hg
theorem CacAt.apart (h : CacAt w Fp b d) {c : Nat} (hc : w.heap.size ≤ c) : ¬ Fp c := h.1.apart hc
theorem CacAt.turn {B : Nat} (h : CacAt w Fp b d) (k : Turn B w w') : CacAt w' Fp b d := ⟨h.1.turn k, h.2⟩
theorem CacAt.cells (h : CacAt w Fp b d) {g : Nat} (hg : Fp g) : ∃ o : Obj, w.heap[g]? = some o ∧ o.isCells = true := h.1.cells hg
end
theorem own_tag {P : Program} {α : Type} [DecidableEq α] {E : Enc P α} {w : World} {A : Option Addr} {cap : Nat} {l : List α} (h : Own E w A cap l) {g : Nat} (hg : inA A g) : ∃ cs, Blk w g E.T cs := by
  obtain ⟨o, rfl⟩ := hg
  obtain ⟨_, _, ⟨h3, _⟩ | ⟨g', o', cs, h3, hB, _⟩⟩ := h
  · cases h3
  · simp only [Option.some.injEq, Addr.mk.injEq] at h3
    rw [h3.1]
    exact ⟨cs, hB⟩
theorem CacheAt.tag {w : World} {Fp : Nat → Prop} {b : Nat} {d : CD} (h : CacheAt w Fp b d) {g : Nat} (hg : Fp g) : ∃ t cs, t ≠ 35 ∧ Blk w g t cs := by
  obtain ⟨lb, FpL, pa, pg, FpA, FpG, hB, hL, hA, hG, hP⟩ := h
  rcases (hP.foot g).1 hg with rfl | hg | hg | hg
  · exact ⟨_, _, by decide, hB⟩
  · obtain ⟨S, FpR, rs, h1, h2, h3, h4⟩ := hL
    rcases (h4.foot g).1 hg with rfl | rfl | hg
    · exact ⟨_, _, by decide, h1⟩
    · exact ⟨_, _, by decide, h2⟩
    · obtain ⟨i, hi, hi2⟩ := (h3.foot g).1 hg
      obtain ⟨cs, hc⟩ := own_tag (h3.own hi) hi2
      exact ⟨_, cs, by decide, hc⟩
  · rcases ha : d.ask with _ | ⟨l, wr⟩
    · rw [ha] at hA
      exact absurd hg (hA.2 g)
    · rw [ha] at hA
      obtain ⟨ba, h1, h2, h3, h4⟩ := hA
      rw [(h3 g).1 hg]
      exact ⟨_, _, by decide, h2⟩
  · rcases ha : d.giv with _ | x
    · rw [ha] at hG
      exact absurd hg (hG.2 g)
    · rw [ha] at hG
      obtain ⟨bg, h1, h2, h3⟩ := hG
      rw [(h3 g).1 hg]
      exact ⟨_, _, by decide, h2⟩
theorem CacAt.msg_ap {w : World} {Fp : Nat → Prop} {b : Nat} {d : CD} (h : CacAt w Fp b d) {A : Option Addr} {cap : Nat} {l : List Msg} (hO : Own msgE w A cap l) : ∀ k, Fp k → inA A k → False := fun k h1 h2 => by
  obtain ⟨t, cs, ht, hB⟩ := h.1.tag h1
  obtain ⟨cs2, hB2⟩ := own_tag hO h2
  have := hB.symm.trans hB2
  simp only [Option.some.injEq, Obj.cells.injEq] at this
  exact ht this.2.1
def TakeU (w : World) (Fp : Nat → Prop) (b : Nat) (r : CD × List Msg × Int) (v : Value) (w' : World) : Prop :=
  ∃ A' cap', v = .tuple #[.slice A' r.2.1.length cap', .int .i64 r.2.2] ∧ Own msgE w' A' cap' r.2.1 ∧ (∀ g, inA A' g → w.heap.size ≤ g) ∧ ∃ Fp', CacAt w' Fp' b r.1 ∧ Only Fp w w' ∧ ∀ g, Fp' g → Fp g ∨ w.heap.size ≤ g
section
variable {w : World} {Fp : Nat → Prop} {b : Nat} {d : CD}
theorem u_ask (H : CacAt w Fp b d) (line : Int) (hln : 0 ≤ line ∧ line < 4294967296) (wr : Bool) (pick : Int) : Calls Try.prog 13 #[.pointer (some ⟨b, 0, none⟩), .int .u32 line, .bool wr, .int .i64 pick] w (Ret fun v w' => TakeU w Fp b (askF d line hln wr pick) v w') := by
  obtain ⟨id, n, ways, L, ask, giv⟩ := d
  refine (ask_c H.1 line hln pick wr).mono ?_
  rintro e w' ⟨v, rfl, A', cap', h1, h2, h3, Fp', h4, h5, h6⟩
  exact ⟨_, rfl, A', cap', h1, h2, h3, Fp', ⟨h4, H.2.ask line hln wr pick⟩, h5, h6⟩
theorem u_take (H : CacAt w Fp b d) (m : Msg) : Calls Try.prog 14 #[.pointer (some ⟨b, 0, none⟩), .agg (msgE.arr m)] w (Ret fun v w' => TakeU w Fp b (takeF d m) v w') := by
  obtain ⟨id, n, ways, L, ask, giv⟩ := d
  refine (take_c H.1 m H.2.id (fun h => data_room H.2.room m h)).mono ?_
  rintro e w' ⟨v, rfl, A', cap', h1, h2, h3, Fp', h4, h5, h6⟩
  exact ⟨_, rfl, A', cap', h1, h2, h3, Fp', ⟨h4, H.2.take m⟩, h5, h6⟩
theorem u_read (H : CacAt w Fp b d) (addr : Int) (ha : 0 ≤ addr ∧ addr < 4294967296) (width : Int) : Calls Try.prog 17 #[.pointer (some ⟨b, 0, none⟩), .int .u32 addr, .int .i64 width] w (Ret fun v w' => v = .tuple #[.int .u32 (readF d.L addr width).1, .int .i64 (readF d.L addr width).2] ∧ New w w') := by
  obtain ⟨lb, FpL, pa, pg, FpA, FpG, hB, hL, hA, hG, hP⟩ := H.1
  exact read_c addr ha width hB hL hP.lb
theorem u_new (id : Int) (n : Nat) (ways : Int) (hid : 0 ≤ id ∧ id < 4) (hr : rightB ((n : Nat) : Int) ways = true) (w : World) : Calls Try.prog 12 #[.int .i64 id, .int .i64 ((n : Nat) : Int), .int .i64 ways] w (Ret fun v w' => ∃ b Fp, v = .tuple #[.pointer (some ⟨b, 0, none⟩), .int .i64 0] ∧ CacAt w' Fp b ⟨id, n, ways, [], none, none⟩ ∧ (∀ g, Fp g → w.heap.size ≤ g) ∧ New w w') := by
  refine (cnew_yes id n ways (by omega) (by omega) hr w).mono ?_
  rintro e w' ⟨v, rfl, b, Fp, h1, h2, h3, h4⟩
  exact ⟨_, rfl, b, Fp, h1, ⟨h2, DOk.new hid (right_bd hr)⟩, h3, h4⟩
variable {A : Option Addr} {cap : Nat}
end
end Go.Proofs.Ytflnlmibkbojcaa
namespace Go.Proofs.Ytflnlmibkbojcaa
open Go.RowKit
structure Stp where
  kind : Int
  pick : Int
  width : Int
  line : Int
  addr : Int
  value : Int
  wr : Bool
  msg : Msg
  hl : 0 ≤ line ∧ line < 4294967296
  ha : 0 ≤ addr ∧ addr < 4294967296
  hv : 0 ≤ value ∧ value < 4294967296
  deriving DecidableEq
def Stp.cells (m : Stp) : List Value := .int .i64 m.kind :: .int .i64 m.pick :: .int .i64 m.width :: .int .u32 m.line :: .int .u32 m.addr :: .int .u32 m.value :: .bool m.wr :: m.msg.cells
def stpE : Enc Try.prog Stp where
  T := 45
  n := 27
  cells := Stp.cells
  len := fun m => by simp [Stp.cells, m.msg.len]
  one := fun m v hv => by
    simp only [Stp.cells, List.mem_cons] at hv
    rcases hv with rfl | rfl | rfl | rfl | rfl | rfl | rfl | hv
    iterate 7 rfl
    exact m.msg.one v hv
  pos := by decide
def stp0 : Stp := ⟨0, 0, 0, 0, 0, 0, false, msg0, by decide, by decide, by decide⟩
theorem stp_msgL (m : Stp) : ((stpE.cells m).drop 7).take 20 = msgE.cells m.msg := by
  show (m.cells.drop 7).take 20 = m.msg.cells
  simp only [Stp.cells, List.drop_succ_cons, List.drop_zero]
  exact List.take_of_length_le (by rw [m.msg.len]; omega)
theorem stp_msg (m : Stp) : ((stpE.arr m).toList.drop 7).take 20 = msgE.cells m.msg := by
  rw [stpE.toList]
  exact stp_msgL m
def stepF (d : CD) (s : Stp) : CD :=
  if s.kind = 1 then (askF d s.line s.hl s.wr s.pick).1
  else if s.kind = 2 then (takeF d s.msg).1
  else if s.kind = 3 then (evictF d s.pick).1
  else if s.kind = 4 then (writeF d s.addr s.width s.value).1
  else d
theorem DOk.step {d : CD} (h : DOk d) (s : Stp) : DOk (stepF d s) := by
  unfold stepF
  split
  · exact h.ask _ _ _ _
  split
  · exact h.take _
  split
  · exact h.evict _
  split
  · exact h.write _ _ _
  · exact h
end Go.Proofs.Ytflnlmibkbojcaa
namespace Go.Proofs.Ytflnlmibkbojcaa
open Go.RowKit
def setB (b : B16) (j : Nat) (v : Int) (h : 0 ≤ v ∧ v < 256) : B16 := ⟨b.1.set j v, by rw [List.length_set]; exact b.2.1, fun a ha => by
  rcases List.mem_or_eq_of_mem_set ha with ha | rfl
  · exact b.2.2 a ha
  · exact h⟩
theorem msg_setb (m : Msg) (j : Nat) (v : Int) (h : 0 ≤ v ∧ v < 256) : (msgE.arr m).setIfInBounds (4 + j) (.int .u8 v) = msgE.arr { m with bs := setB m.bs j v h } := by
  apply Array.toList_inj.1
  rw [Array.toList_setIfInBounds, Enc.toList, Enc.toList]
  show (Msg.cells _).set (4 + j) _ = Msg.cells _
  rw [Nat.add_comm 4]
  simp [Msg.cells, setB, List.map_set]
def kd0 : CD := ⟨0, 1, 1, [], none, none⟩
def kd1 : CD := ⟨0, 1, 1, [], some (3, false), none⟩
def km1 : Msg := mkM 1 0 4 3
def km2 : Msg := { mkM 9 4 0 3 with bs := setB b16z 0 7 (by decide) }
def kl2 : Ln := mkL 3 2 (setB b16z 0 7 (by decide))
def kd2 : CD := ⟨0, 1, 1, [kl2], none, none⟩
def km3 : Msg := mkM 13 0 4 3
theorem known_1 : askF kd0 3 (by decide) false 0 = (kd1, [km1], 0) := by rfl
theorem known_2 : takeF kd1 km2 = (kd2, [km3], 0) := by rfl
theorem known_3 : readF kd2.L 48 4 = (7, 0) := by decide +kernel
section
variable {w : World} {Fp : Nat → Prop} {b : Nat}
theorem k_ask (H : CacAt w Fp b kd0) : Calls Try.prog 13 #[.pointer (some ⟨b, 0, none⟩), .int .u32 3, .bool false, .int .i64 0] w (Ret fun v w' => TakeU w Fp b (kd1, [km1], 0) v w') := by
  have := u_ask H 3 (by decide) false 0
  rwa [known_1] at this
theorem k_take (H : CacAt w Fp b kd1) : Calls Try.prog 14 #[.pointer (some ⟨b, 0, none⟩), .agg (msgE.arr km2)] w (Ret fun v w' => TakeU w Fp b (kd2, [km3], 0) v w') := by
  have := u_take H km2
  rwa [known_2] at this
theorem k_read (H : CacAt w Fp b kd2) : Calls Try.prog 17 #[.pointer (some ⟨b, 0, none⟩), .int .u32 48, .int .i64 4] w (Ret fun v w' => v = .tuple #[.int .u32 7, .int .i64 0] ∧ New w w') := by
  have := u_read H 48 (by decide) 4
  rwa [known_3] at this
end
end Go.Proofs.Ytflnlmibkbojcaa
namespace Go.Proofs.Ytflnlmibkbojcaa
open Go.RowKit
set_option maxRecDepth 100000 in
set_option maxHeartbeats 4000000 in
theorem known_c (w : World) : Calls Try.prog 11 #[] w (Ret fun v w' => v = .bool true ∧ New w w') := by
 have hF := Only.refl (fun _ => False) w
 refine Zen 75 Try.func11 ?_
 refine Zsr ?_
 refine Za ?_
 refine Znn ?_
 refine Zsr ?_
 refine Zk (args := #[.int .i64 0, .int .i64 1, .int .i64 1]) cf12 (u_new 0 1 1 (by omega) (by decide) _) ?_
 rintro v w5 ⟨b1, Fp2, rfl, H3, hb4, hN6⟩
 have gA_Fp2 := gA_newP hF hb4
 refine Zm ?_
 refine Zt ?_
 refine Zt ?_
 refine Za ?_
 refine Za ?_
 refine Znn ?_
 refine Zsr ?_
 refine Zm ?_
 refine Zk cf13 (k_ask H3) ?_
 rintro v w14 ⟨A10, cap11, rfl, O12, hA13, Fp7, H8, hN15, mv9⟩
 replace hF := hF.trNew hN6
 have gA_Fp7 := gA_movedP hF mv9 gA_Fp2
 have hdok_H3 := H3.2
 clear H3
 have ap2_Fp7_A10 := H8.msg_ap O12
 refine Zm ?_
 refine Zt ?_
 refine Zt ?_
 refine Za ?_
 refine Za ?_
 refine Znn ?_
 refine Zsr ?_
 refine Zv (.agg (msgE.arr (mkM 9 4 0 3))) (fun _ _ => x_build (cells := msgE.arr (mkM 9 4 0 3)) rfl (by kernel_rfl)) ?_
 refine Zna (z := zv3) (cs := msgE.arr msg0) (by kernel_rfl) fun b16 w17 hN18 B19 hb20 => ?_
 have ap_Fp7_b16 : ¬ Fp7 b16 := H8.apart hb20
 have ap_A10_b16 : Apart A10 b16 := O12.apart hb20
 replace hF := hF.locP hN15 gA_Fp2
 have g_b16 := Nat.le_trans hF.size hb20
 refine ZsS sz35 (msgE.all _) B19 (msgE.size _) (msgE.size _) fun w21 hO22 hBq => ?_
 replace B19 := hBq
 clear hBq
 refine Znn ?_
 refine Zsr ?_
 refine Zf fo35_4 ?_
 refine Zv (.pointer (some ⟨b16, 4 + 0, none⟩)) (fun _ fr => x_indexArr Try.underlying22 sz16 rfl (fr.ev rfl) rfl (by omega) (show 4 + 0 * 1 = 4 + 0 by omega)) ?_
 refine Zs1 (cs' := msgE.arr { (mkM 9 4 0 3) with bs := setB (mkM 9 4 0 3).bs 0 7 (by decide) }) sz5 B19 (by rw [msgE.size]; show _ < 20; omega) (msg_setb _ 0 _ (by decide)) fun w23 hO24 hBq => ?_
 replace B19 := hBq
 clear hBq
 refine Znn ?_
 refine Zsq ?_
 replace B19 : Blk w23 b16 35 (msgE.arr km2) := B19
 refine Zrg ?_
 refine Zm ?_
 refine ZE msgE ag35 (B19.rangeE msgE) ?_
 replace H8 := ((H8.new hN18).only hO22 (ne1P ap_Fp7_b16)).only hO24 (ne1P ap_Fp7_b16)
 refine Zk cf14 (k_take H8) ?_
 rintro v w32 ⟨A28, cap29, rfl, O30, hA31, Fp25, H26, hN33, mv27⟩
 have hdok_H8 := H8.2
 clear H8
 refine Zm ?_
 refine Zt ?_
 refine Zt ?_
 refine Za ?_
 refine Za ?_
 refine Znn ?_
 refine Zsr ?_
 refine Zm ?_
 refine Zk cf17 (k_read H26) ?_
 rintro v w34 ⟨rfl, hN35⟩
 refine Zm ?_
 refine Zt ?_
 refine Zt ?_
 refine Za ?_
 refine Za ?_
 refine Znn ?_
 refine Zsr ?_
 refine Zm ?_
 refine Zv (.bool true) (fun _ fr => x_eql rfl (fr.ev rfl) rfl rfl) ?_
 refine Zm ?_
 refine Zm ?_
 refine Zv (.bool true) (fun _ fr => x_eql rfl (fr.ev rfl) rfl rfl) ?_
 refine Zpt ?_
 refine Zm ?_
 refine Zm ?_
 refine Zv (.bool true) (fun _ fr => x_eql rfl (fr.ev rfl) rfl rfl) ?_
 refine Zpt ?_
 refine Zm ?_
 refine Zm ?_
 refine Zv (.bool true) (fun _ fr => x_eql rfl (fr.ev rfl) rfl rfl) ?_
 refine Zpt ?_
 refine Zm ?_
 refine Zm ?_
 refine Zv _ (fun _ fr => x_len Try.underlying29 rfl (fr.ev rfl)) ?_
 refine Zv (.bool true) (fun _ fr => x_eql rfl (fr.ev rfl) rfl rfl) ?_
 refine Zpt ?_
 refine Zm ?_
 refine Zm ?_
 replace O12 := ((((O12.new hN18).only hO22 (Apart.ne1 ap_A10_b16)).only hO24 (Apart.ne1 ap_A10_b16)).only hN33 (fun g h1 h2 => (symP ap2_Fp7_A10) g h1 h2)).new hN35
 obtain ⟨g36, o37, hA38⟩ := (O12.view).some_ (by first | omega | decide)
 refine Zv (.pointer (some ⟨g36, o37 + 0 * 20, none⟩)) (fun _ fr => x_indexV Try.underlying29 sz35 rfl (fr.ev rfl) hA38 rfl (by first | omega | decide) rfl) ?_
 refine Zf fo35_0 ?_
 refine Zd (v := .int .i64 1) pl33 (range_cell ((O12.view).elem hA38 0 msg0 (by first | omega | decide)) 0 rfl rfl) ?_
 refine Zv (.bool true) (fun _ fr => x_eql rfl (fr.ev rfl) rfl rfl) ?_
 refine Zpt ?_
 refine Zm ?_
 refine Zm ?_
 refine Zv _ (fun _ fr => x_len Try.underlying29 rfl (fr.ev rfl)) ?_
 refine Zv (.bool true) (fun _ fr => x_eql rfl (fr.ev rfl) rfl rfl) ?_
 refine Zpt ?_
 refine Zm ?_
 refine Zm ?_
 replace O30 := O30.new hN35
 obtain ⟨g39, o40, hA41⟩ := (O30.view).some_ (by first | omega | decide)
 refine Zv (.pointer (some ⟨g39, o40 + 0 * 20, none⟩)) (fun _ fr => x_indexV Try.underlying29 sz35 rfl (fr.ev rfl) hA41 rfl (by first | omega | decide) rfl) ?_
 refine Zf fo35_0 ?_
 refine Zd (v := .int .i64 13) pl33 (range_cell ((O30.view).elem hA41 0 msg0 (by first | omega | decide)) 0 rfl rfl) ?_
 refine Zv (.bool true) (fun _ fr => x_eql rfl (fr.ev rfl) rfl rfl) ?_
 refine Zpt ?_
 refine Zm ?_
 refine Zm ?_
 refine Zv (.bool true) (fun _ fr => x_eql rfl (fr.ev rfl) rfl rfl) ?_
 refine Zpt ?_
 refine Za ?_
 refine Znn ?_
 refine Zrt ?_
 refine Zre rfl [_] ⟨rfl, trivial⟩ ?_
 replace hF := ((((hF.trNew hN18).loc hO22 (.inr g_b16)).loc hO24 (.inr g_b16)).locP hN33 gA_Fp7).trNew hN35
 exact ⟨_, rfl, rfl, hF⟩
end Go.Proofs.Ytflnlmibkbojcaa
namespace Go.Proofs.Ytflnlmibkbojcaa
open Go.RowKit
set_option maxRecDepth 100000 in
set_option maxHeartbeats 4000000 in
theorem ask_nil (line : Int) (wr : Bool) (pick : Int) (w : World) : Calls Try.prog 13 #[.pointer none, .int .u32 line, .bool (wr), .int .i64 pick] w (Ret fun v w' => v = .tuple #[.slice none 0 0, .int .i64 1] ∧ New w w') := by
 have hF := Only.refl (fun _ => False) w
 refine Zen 91 Try.func13 ?_
 refine Zsr ?_
 refine Za ?_
 refine Za ?_
 refine Znn ?_
 refine Zsq ?_
 refine Zsr ?_
 refine Zm ?_
 refine Zk cf43 (cnone_nil _) ?_
 rintro v w9 ⟨rfl, hw9⟩
 obtain rfl := hw9.symm
 refine Znn ?_
 refine Zct ?_
 refine Zsr ?_
 refine Za ?_
 refine Za ?_
 refine Znn ?_
 refine Zrt ?_
 refine Zr1 ?_
 refine Zre rfl [_, _] ⟨rfl, rfl, trivial⟩ ?_
 exact ⟨_, rfl, rfl, hF⟩
set_option maxRecDepth 100000 in
set_option maxHeartbeats 4000000 in
theorem cachenil_c (s : Stp) (w : World) : Calls Try.prog 8 #[.agg (stpE.arr s)] w (Ret fun v w' => v = .bool true ∧ New w w') := by
 have hF := Only.refl (fun _ => False) w
 refine Zen 126 Try.func8 ?_
 refine Zsr ?_
 refine Znb (cs := stpE.arr s) fun b1 w2 hN3 B4 hb5 => ?_
 refine Za ?_
 refine Znn ?_
 refine Zsr ?_
 refine Za ?_
 refine Znn ?_
 refine Zsr ?_
 refine Zv (.agg (#[.int .i64 0, .pointer none, .pointer none, .pointer none])) (fun _ _ => x_build (cells := #[.int .i64 0, .pointer none, .pointer none, .pointer none]) rfl (by kernel_rfl)) ?_
 refine Znb (cs := #[.int .i64 0, .pointer none, .pointer none, .pointer none]) fun b6 w7 hN8 B9 hb10 => ?_
 refine Za ?_
 refine Znn ?_
 refine Zsr ?_
 refine Zm ?_
 refine Zf fo45_4 ?_
 replace B4 := B4.new hN8
 refine Zd (v := .int .u32 s.addr) pl32 (B4.cell 4 rfl) ?_
 refine Zf fo45_2 ?_
 refine Zd (v := .int .i64 s.width) pl3 (B4.cell 2 rfl) ?_
 refine Zk cf17 (read_nil s.addr s.width _) ?_
 rintro v w11 ⟨rfl, hN12⟩
 refine Zm ?_
 refine Zt ?_
 refine Zt ?_
 refine Za ?_
 refine Za ?_
 refine Znn ?_
 refine Zsr ?_
 refine Zm ?_
 refine Zf fo45_4 ?_
 replace B4 := B4.new hN12
 refine Zd (v := .int .u32 s.addr) pl32 (B4.cell 4 rfl) ?_
 refine Zf fo45_2 ?_
 refine Zd (v := .int .i64 s.width) pl3 (B4.cell 2 rfl) ?_
 refine Zf fo45_5 ?_
 refine Zd (v := .int .u32 s.value) pl32 (B4.cell 5 rfl) ?_
 replace B9 := B9.new hN12
 refine Zk cf15 (write_z B9 s.addr s.width s.value) ?_
 rintro v w13 ⟨rfl, hN14⟩
 refine Za ?_
 refine Znn ?_
 refine Zsr ?_
 refine Zm ?_
 refine Zf fo45_3 ?_
 replace B4 := B4.new hN14
 refine Zd (v := .int .u32 s.line) pl32 (B4.cell 3 rfl) ?_
 refine Zf fo45_6 ?_
 refine Zd (v := .bool (s.wr)) pl4 (B4.cell 6 rfl) ?_
 refine Zf fo45_1 ?_
 refine Zd (v := .int .i64 s.pick) pl3 (B4.cell 1 rfl) ?_
 refine Zk cf13 (ask_nil s.line (s.wr) s.pick _) ?_
 rintro v w15 ⟨rfl, hN16⟩
 refine Zm ?_
 refine Zt ?_
 refine Zt ?_
 refine Za ?_
 refine Za ?_
 refine Znn ?_
 refine Zsr ?_
 refine Zm ?_
 refine Zf fo45_7 ?_
 replace B4 := B4.new hN16
 refine ZE (p := s.msg) msgE ag35 (B4.part (stp_msg s)) ?_
 replace B9 := (B9.new hN14).new hN16
 refine Zk cf14 (take_z B9 s.msg) ?_
 rintro v w17 ⟨rfl, hN18⟩
 refine Zm ?_
 refine Zt ?_
 refine Zt ?_
 refine Za ?_
 refine Za ?_
 refine Znn ?_
 refine Zsr ?_
 refine Zm ?_
 refine Zk cf32 (asked_nil _) ?_
 rintro v w19 ⟨rfl, hN20⟩
 refine Zm ?_
 refine Zt ?_
 refine Zt ?_
 refine Zt ?_
 refine Za ?_
 refine Za ?_
 refine Za ?_
 refine Znn ?_
 refine Zsr ?_
 refine Zm ?_
 replace B9 := (B9.new hN18).new hN20
 refine Zk cf33 (given_z B9) ?_
 rintro v w21 ⟨rfl, hN22⟩
 refine Zm ?_
 refine Zt ?_
 refine Zt ?_
 refine Zna (z := zv1) (cs := lnE.arr ln0) (by kernel_rfl) fun b23 w24 hN25 B26 hb27 => ?_
 replace B4 := ((B4.new hN18).new hN20).new hN22
 have ne_b1_b23 : NE b1 b23 := NE.mk (Nat.lt_of_lt_of_le B4.lt hb27)
 replace B9 := B9.new hN22
 have ne_b6_b23 : NE b6 b23 := NE.mk (Nat.lt_of_lt_of_le B9.lt hb27)
 replace hF := (((((((hF.trNew hN3).trNew hN8).trNew hN12).trNew hN14).trNew hN16).trNew hN18).trNew hN20).trNew hN22
 have g_b23 := Nat.le_trans hF.size hb27
 refine ZsS sz39 (lnE.all _) B26 (lnE.size _) (lnE.size _) fun w28 hO29 hBq => ?_
 clear hBq
 refine Za ?_
 refine Znn ?_
 refine Zsr ?_
 refine Zm ?_
 refine Zv (.bool true) (fun _ fr => x_eql rfl (fr.ev rfl) rfl rfl) ?_
 refine Zm ?_
 refine Zm ?_
 refine Zv (.bool true) (fun _ fr => x_eql rfl (fr.ev rfl) rfl rfl) ?_
 refine Zpt ?_
 refine Zm ?_
 refine Zm ?_
 refine Zv _ (fun _ fr => x_len Try.underlying29 rfl (fr.ev rfl)) ?_
 refine Zv (.bool true) (fun _ fr => x_eql rfl (fr.ev rfl) rfl rfl) ?_
 refine Zpt ?_
 refine Zm ?_
 refine Zm ?_
 refine Zv (.bool true) (fun _ fr => x_eql rfl (fr.ev rfl) rfl rfl) ?_
 refine Zpt ?_
 refine Zm ?_
 refine Zm ?_
 refine Zv _ (fun _ fr => x_len Try.underlying29 rfl (fr.ev rfl)) ?_
 refine Zv (.bool true) (fun _ fr => x_eql rfl (fr.ev rfl) rfl rfl) ?_
 refine Zpt ?_
 refine Zm ?_
 refine Zm ?_
 refine Zv (.bool true) (fun _ fr => x_eql rfl (fr.ev rfl) rfl rfl) ?_
 refine Zpt ?_
 refine Zm ?_
 refine Zm ?_
 refine Zv (.bool true) (fun _ fr => x_not rfl (fr.ev rfl) rfl) ?_
 refine Zpt ?_
 refine Zm ?_
 refine Zm ?_
 refine Zv (.bool true) (fun _ fr => x_not rfl (fr.ev rfl) rfl) ?_
 refine Zpt ?_
 refine Zm ?_
 refine Zm ?_
 refine Zf fo45_1 ?_
 replace B4 := (B4.new hN25).only hO29 ne_b1_b23
 refine Zd (v := .int .i64 s.pick) pl3 (B4.cell 1 rfl) ?_
 refine Zk cf25 (evict_nil s.pick _) ?_
 rintro v w30 ⟨rfl, hN31⟩
 refine Zv _ (fun _ fr => x_len Try.underlying29 rfl (fr.ev rfl)) ?_
 refine Zv (.bool true) (fun _ fr => x_eql rfl (fr.ev rfl) rfl rfl) ?_
 refine Zpt ?_
 refine Zm ?_
 refine Zm ?_
 refine Zf fo45_3 ?_
 replace B4 := B4.new hN31
 refine Zd (v := .int .u32 s.line) pl32 (B4.cell 3 rfl) ?_
 replace B9 := ((B9.new hN25).only hO29 ne_b6_b23).new hN31
 refine Zk cf34 (state_z B9 s.line) ?_
 rintro v w32 ⟨rfl, hN33⟩
 refine Zv (.bool true) (fun _ fr => x_eql rfl (fr.ev rfl) rfl rfl) ?_
 refine Zpt ?_
 refine Zm ?_
 refine Zm ?_
 refine Zk cf30 (clines_nil _) ?_
 rintro v w34 ⟨rfl, hN35⟩
 refine Zv _ (fun _ fr => x_len Try.underlying40 rfl (fr.ev rfl)) ?_
 refine Zv (.bool true) (fun _ fr => x_eql rfl (fr.ev rfl) rfl rfl) ?_
 refine Zpt ?_
 refine Zm ?_
 refine Zm ?_
 refine Zk cf29 (copy_nil2 _) ?_
 rintro v w36 ⟨rfl, hN37⟩
 refine Zv (.bool true) (fun _ fr => x_peql Try.underlying25 rfl (fr.ev rfl) rfl rfl) ?_
 refine Zpt ?_
 refine Zm ?_
 refine Zk cf11 (known_c _) ?_
 rintro v w38 ⟨rfl, hN39⟩
 refine Zpt ?_
 refine Za ?_
 refine Znn ?_
 refine Zrt ?_
 refine Zre rfl [_] ⟨rfl, trivial⟩ ?_
 replace hF := ((((((hF.trNew hN25).loc hO29 (.inr g_b23)).trNew hN31).trNew hN33).trNew hN35).trNew hN37).trNew hN39
 exact ⟨_, rfl, rfl, hF⟩
end Go.Proofs.Ytflnlmibkbojcaa
namespace Go.Proofs.Ytflnlmibkbojcaa
open Go.RowKit Go.ChangeShapes Go.WideShapes Go.ChangeAt Go.Deep
section
variable {H : Type} {enc : TypeId × Value → H} {P : Program} {w : World} {base : Nat} {spare : Nat → Bool} {held : Bool} {fuel : Nat} {cs : List Value} {x : DataW H × List MemPlace}
theorem piece {q n : Nat} {a b : List Value} (h1 : (cs.drop q).take n = a) (h2 : cs.drop (q + n) = b) : cs.drop q = a ++ b := by
  rw [← h1, ← h2, ← List.drop_drop, List.take_append_drop]
theorem trod_ints {t e n : Nat} {k : IntKind} (ht : P.underlying t = some (.array n e)) (he : P.underlying e = some (.int k)) (hC : P.cellsOf e = 1) (hCt : P.cellsOf t = n) (h : DataW.trod enc P w base spare held fuel t cs = some x) :
    ∃ l : List Int, l.length = n ∧ cs = l.map (Value.int k) ∧ ∀ a ∈ l, (Lit.int k a).wf = true := by
  obtain ⟨xs, m, _, _, hl, hxl, hi⟩ := DataW.trod_array ht h
  rw [hC] at hi
  rw [hCt] at hl
  have hb : ∀ i, (h : i < cs.length) → ∃ a : Int, cs[i] = .int k a ∧ (Lit.int k a).wf = true := by
    intro i h
    have h2 := hi i (by omega)
    have e1 : (cs.drop (i * 1)).take 1 = [cs[i]] := by
      rw [Nat.mul_one, List.drop_eq_getElem_cons h]
      rfl
    rw [e1, List.getElem?_eq_getElem (show i < xs.length by omega)] at h2
    obtain ⟨a, e0, _, wa⟩ := DataW.trod_int he h2
    exact ⟨a, by simpa using e0, wa⟩
  obtain ⟨f, hf⟩ : ∃ f : (i : Fin cs.length) → Int, ∀ i : Fin cs.length, cs[i.1] = .int k (f i) ∧ (Lit.int k (f i)).wf = true := ⟨fun i => (hb i i.2).choose, fun i => (hb i i.2).choose_spec⟩
  refine ⟨List.ofFn f, by simp [hl], ?_, ?_⟩
  · apply List.ext_getElem
    · simp
    · intro i h1 h2
      rw [(hf ⟨i, h1⟩).1]
      simp
  · intro a ha
    obtain ⟨i, rfl⟩ := List.mem_ofFn.1 ha
    exact (hf i).2
theorem open_rec {α : Type} [DecidableEq α] {E : Enc P α} {OK : α → Prop} {fs : Array Field} {r : Reach} {b0 : Nat} {v : Value} {d : DataW H} {p : List MemPlace} (ht : P.underlying E.T = some (.struct fs))
    (hel : ∀ fuel cs x, DataW.trod enc P w base (fun _ => true) held fuel E.T cs = some x → ∃ m, OK m ∧ cs = E.cells m) (hv : Value.okWide P w r b0 E.T v) (h : DataW.Trod enc P w base (fun _ => true) held E.T v d p) :
    ∃ m, OK m ∧ v = .agg (E.arr m) := by
  obtain ⟨cs, rfl, hsz⟩ := okWide_struct ht hv
  obtain ⟨fuel, hf⟩ := h
  obtain ⟨m, hm, hc⟩ := hel _ _ _ hf
  refine ⟨m, hm, congrArg Value.agg ?_⟩
  have : cs.toList = E.cells m := hc
  apply Array.toList_inj.1
  rw [this, E.toList]
end
end Go.Proofs.Ytflnlmibkbojcaa
namespace Go.Proofs.Ytflnlmibkbojcaa
open Go.RowKit Go.ChangeShapes Go.WideShapes Go.ChangeAt
section
variable {H : Type} {enc : TypeId × Value → H} {w : World} {base : Nat} {spare : Nat → Bool} {held : Bool} {fuel : Nat} {cs : List Value} {x : DataW H × List MemPlace}
theorem cellsMSG : Try.prog.cellsOf 35 = 20 := by kernel_rfl
theorem cellsSTEP : Try.prog.cellsOf 45 = 27 := by kernel_rfl
theorem cellsKIND : Try.prog.cellsOf 33 = 1 := by kernel_rfl
theorem cellsBOOL : Try.prog.cellsOf 4 = 1 := by kernel_rfl
theorem cellsU32 : Try.prog.cellsOf 32 = 1 := by kernel_rfl
theorem cellsARR : Try.prog.cellsOf 22 = 16 := by kernel_rfl
theorem cellsU8 : Try.prog.cellsOf 5 = 1 := by kernel_rfl
theorem cellsI64 : Try.prog.cellsOf 3 = 1 := by kernel_rfl
theorem wf_u32 {a : Int} (h : (Lit.int .u32 a).wf = true) : 0 ≤ a ∧ a < 4294967296 := by
  simp [Lit.wf, IntKind.min, IntKind.max, IntKind.signed, IntKind.bits] at h
  omega
theorem wf_u8 {a : Int} (h : (Lit.int .u8 a).wf = true) : 0 ≤ a ∧ a < 256 := by
  simp [Lit.wf, IntKind.min, IntKind.max, IntKind.signed, IntKind.bits] at h
  omega
theorem trod_msg (h : DataW.trod enc Try.prog w base spare held fuel 35 cs = some x) : ∃ m : Msg, True ∧ cs = m.cells := by
  obtain ⟨xs, n, _, _, hl, hlen, hg⟩ := DataW.trod_struct Try.underlying35 h
  rw [cellsMSG] at hl
  match xs, hlen with
  | [y0, y1, y2, y3, y4], _ =>
    have h0 : DataW.trod enc Try.prog w base spare held n 33 ((cs.drop 0).take (Try.prog.cellsOf 33)) = some y0 := hg 0 _ rfl
    rw [cellsKIND] at h0
    have h1 : DataW.trod enc Try.prog w base spare held n 3 ((cs.drop 1).take (Try.prog.cellsOf 3)) = some y1 := hg 1 _ rfl
    rw [cellsI64] at h1
    have h2 : DataW.trod enc Try.prog w base spare held n 3 ((cs.drop 2).take (Try.prog.cellsOf 3)) = some y2 := hg 2 _ rfl
    rw [cellsI64] at h2
    have h3 : DataW.trod enc Try.prog w base spare held n 32 ((cs.drop 3).take (Try.prog.cellsOf 32)) = some y3 := hg 3 _ rfl
    rw [cellsU32] at h3
    have h4 : DataW.trod enc Try.prog w base spare held n 22 ((cs.drop 4).take (Try.prog.cellsOf 22)) = some y4 := hg 4 _ rfl
    rw [cellsARR] at h4
    obtain ⟨a0, e0, _⟩ := DataW.trod_int Try.underlying33 h0
    obtain ⟨a1, e1, _⟩ := DataW.trod_int Try.underlying3 h1
    obtain ⟨a2, e2, _⟩ := DataW.trod_int Try.underlying3 h2
    obtain ⟨a3, e3, _, w3⟩ := DataW.trod_int Try.underlying32 h3
    obtain ⟨l, hll, e4, hw⟩ := trod_ints Try.underlying22 Try.underlying5 cellsU8 cellsARR h4
    refine ⟨⟨a0, a1, a2, a3, ⟨l, hll, fun a ha => wf_u8 (hw a ha)⟩, wf_u32 w3⟩, trivial, ?_⟩
    have p5 : cs.drop 20 = [] := List.drop_eq_nil_of_le (by omega)
    have p4 := piece e4 p5
    have p3 := piece e3 p4
    have p2 := piece e2 p3
    have p1 := piece e1 p2
    have p0 := piece e0 p1
    rw [List.drop_zero] at p0
    rw [p0]
    simp [Msg.cells]
theorem trod_stp (h : DataW.trod enc Try.prog w base spare held fuel 45 cs = some x) : ∃ m : Stp, True ∧ cs = m.cells := by
  obtain ⟨xs, n, _, _, hl, hlen, hg⟩ := DataW.trod_struct Try.underlying45 h
  rw [cellsSTEP] at hl
  match xs, hlen with
  | [y0, y1, y2, y3, y4, y5, y6, y7], _ =>
    have h0 : DataW.trod enc Try.prog w base spare held n 3 ((cs.drop 0).take (Try.prog.cellsOf 3)) = some y0 := hg 0 _ rfl
    rw [cellsI64] at h0
    have h1 : DataW.trod enc Try.prog w base spare held n 3 ((cs.drop 1).take (Try.prog.cellsOf 3)) = some y1 := hg 1 _ rfl
    rw [cellsI64] at h1
    have h2 : DataW.trod enc Try.prog w base spare held n 3 ((cs.drop 2).take (Try.prog.cellsOf 3)) = some y2 := hg 2 _ rfl
    rw [cellsI64] at h2
    have h3 : DataW.trod enc Try.prog w base spare held n 32 ((cs.drop 3).take (Try.prog.cellsOf 32)) = some y3 := hg 3 _ rfl
    rw [cellsU32] at h3
    have h4 : DataW.trod enc Try.prog w base spare held n 32 ((cs.drop 4).take (Try.prog.cellsOf 32)) = some y4 := hg 4 _ rfl
    rw [cellsU32] at h4
    have h5 : DataW.trod enc Try.prog w base spare held n 32 ((cs.drop 5).take (Try.prog.cellsOf 32)) = some y5 := hg 5 _ rfl
    rw [cellsU32] at h5
    have h6 : DataW.trod enc Try.prog w base spare held n 4 ((cs.drop 6).take (Try.prog.cellsOf 4)) = some y6 := hg 6 _ rfl
    rw [cellsBOOL] at h6
    have h7 : DataW.trod enc Try.prog w base spare held n 35 ((cs.drop 7).take (Try.prog.cellsOf 35)) = some y7 := hg 7 _ rfl
    rw [cellsMSG] at h7
    obtain ⟨a0, e0, _⟩ := DataW.trod_int Try.underlying3 h0
    obtain ⟨a1, e1, _⟩ := DataW.trod_int Try.underlying3 h1
    obtain ⟨a2, e2, _⟩ := DataW.trod_int Try.underlying3 h2
    obtain ⟨a3, e3, _, w3⟩ := DataW.trod_int Try.underlying32 h3
    obtain ⟨a4, e4, _, w4⟩ := DataW.trod_int Try.underlying32 h4
    obtain ⟨a5, e5, _, w5⟩ := DataW.trod_int Try.underlying32 h5
    obtain ⟨a6, e6, _⟩ := DataW.trod_bool Try.underlying4 h6
    obtain ⟨m7, -, e7⟩ := trod_msg h7
    refine ⟨⟨a0, a1, a2, a3, a4, a5, a6, m7, wf_u32 w3, wf_u32 w4, wf_u32 w5⟩, trivial, ?_⟩
    have p8 : cs.drop 27 = [] := List.drop_eq_nil_of_le (by omega)
    have p7 := piece e7 p8
    have p6 := piece e6 p7
    have p5 := piece e5 p6
    have p4 := piece e4 p5
    have p3 := piece e3 p4
    have p2 := piece e2 p3
    have p1 := piece e1 p2
    have p0 := piece e0 p1
    rw [List.drop_zero] at p0
    rw [p0]
    simp [Stp.cells]
structure Frm where
  sets : Int
  ways : Int
  deriving DecidableEq
def Frm.cells (q : Frm) : List Value := [.int .i64 q.sets, .int .i64 q.ways]
set_option maxRecDepth 100000 in
theorem open_stp {r : Reach} {b0 : Nat} {v : Value} {d : DataW H} {p : List MemPlace} (hv : Value.okWide Try.prog w r b0 45 v) (h : DataW.Trod enc Try.prog w base (fun _ => true) held 45 v d p) : ∃ m : Stp, True ∧ v = .agg (stpE.arr m) :=
  open_rec (E := stpE) (OK := fun _ => True) Try.underlying45 (fun _ _ _ => trod_stp) hv h
end
end Go.Proofs.Ytflnlmibkbojcaa
namespace Go.Proofs.Ytflnlmibkbojcaa
open Go.RowKit
set_option linter.unusedVariables false
theorem walk_CacheNil (w : World) (v0 : Value) (hv0 : ∃ m : Stp, True ∧ v0 = .agg (stpE.arr m)) : Calls Try.prog 8 #[v0] w fun e w' => e = .returned (.bool true) ∧ Below w.heap.size w w' := by
  obtain ⟨m0, -, rfl⟩ := hv0
  refine (cachenil_c m0 w).mono ?_
  rintro e w' ⟨v, rfl, rfl, hn⟩
  exact ⟨rfl, hn.nb⟩
end Go.Proofs.Ytflnlmibkbojcaa
