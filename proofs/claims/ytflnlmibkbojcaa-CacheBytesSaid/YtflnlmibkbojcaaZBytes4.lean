/-
  Part 4 of what the claim stands on: walks through the code, plain laws.
-/
import Derived.Test.YtflnlmibkbojcaaZBytes3
namespace Go.Proofs.Ytflnlmibkbojcaa
open Go.RowKit
set_option maxRecDepth 100000 in
set_option maxHeartbeats 4000000 in
theorem read_c (addr : Int) (ha : 0 ≤ addr ∧ addr < 4294967296) (width : Int) {w : World} {b lb : Nat} {id : Int} {pa pg : Value} {FpL : Nat → Prop} {n : Nat} {ways : Int} {L : List Ln} (hB : Blk w b 83 #[.int .i64 id, .pointer (some ⟨lb, 0, none⟩), pa, pg]) (hL : LinesAt w FpL lb n ways L) (ap_FpL_b : ¬ FpL b)  : Calls Try.prog 17 #[.pointer (some ⟨b, 0, none⟩), .int .u32 addr, .int .i64 width] w (Ret fun v w' => v = .tuple #[.int .u32 (readF L addr width).1, .int .i64 (readF L addr width).2] ∧ New w w') := by
 obtain ⟨hn1, hn2, hw1, hw2⟩ := hL.bd
 have hF := Only.refl (fun _ => False) w
 refine Zen 55 Try.func17 ?_
 refine Zsr ?_
 refine Za ?_
 refine Za ?_
 refine Znn ?_
 refine Zsq ?_
 refine Zsr ?_
 refine Zm ?_
 refine Zk cf43 (cnone_c hB) ?_
 rintro v w9 ⟨rfl, hw9⟩
 obtain rfl := hw9.symm
 refine Znn ?_
 refine Zcf ?_
 refine Zsk ?_
 refine Znx ?_
 refine Zsr ?_
 refine Zm ?_
 refine Zm ?_
 refine Zk (args := #[.int .u32 addr, .int .i64 width]) cf54 (place_c addr width (by omega) _) ?_
 rintro v w9 ⟨rfl, hw9⟩
 obtain rfl := hw9.symm
 refine Zm ?_
 refine Zt ?_
 refine Zt ?_
 refine Zt ?_
 refine Za ?_
 refine Za ?_
 refine Za ?_
 refine Znn ?_
 refine Zsq ?_
 refine Zsr ?_
 refine Zm ?_
 refine Zv _ (fun _ fr => x_not rfl (fr.ev rfl) rfl) ?_
 refine Znn ?_
 refine Zcd (fun hc5 => ?_) (fun hc5 => ?_)
 ·refine Zsr ?_
  refine Za ?_
  refine Za ?_
  refine Znn ?_
  refine Zrt ?_
  refine Zr1 ?_
  refine Zre rfl [_, _] ⟨rfl, rfl, trivial⟩ ?_
  have hq : readF L addr width = (0, 2) := by unfold readF; rw [if_pos (by simpa using hc5)]
  rw [hq]
  exact ⟨_, rfl, rfl, hF⟩
 ·refine Zsk ?_
  refine Znx ?_
  refine Zsq ?_
  have hrt : rightA addr width = true := by simpa using hc5
  have hrd := rightA_yes (by omega) hrt
  refine Zrg ?_
  refine Zm ?_
  refine Zn ?_
  refine Zf fo83_1 ?_
  refine Zd pl79 (hB.cell 1 rfl) ?_
  refine Zm ?_
  refine Zk (args := #[.pointer (some ⟨lb, 0, none⟩), .int .u32 (addr / 16)]) cf55 (find_c (addr / 16) (by omega) hL) ?_
  rintro v w6 ⟨rfl, hN7⟩
  refine Zm ?_
  refine Zt ?_
  refine Zt ?_
  refine Zna (z := zv1) (cs := lnE.arr ln0) (by kernel_rfl) fun b8 w9 hN10 B11 hb12 => ?_
  replace hB := hB.new hN7
  have ne_b_b8 : NE b b8 := NE.mk (Nat.lt_of_lt_of_le hB.lt hb12)
  replace hL := hL.new hN7
  have ap_FpL_b8 : ¬ FpL b8 := hL.apart hb12
  replace hF := hF.trNew hN7
  have g_b8 := Nat.le_trans hF.size hb12
  refine ZsS sz39 (lnE.all _) B11 (lnE.size _) (lnE.size _) fun w13 hO14 hBq => ?_
  replace B11 := hBq
  clear hBq
  refine Za ?_
  refine Znn ?_
  refine Zsq ?_
  refine Zsr ?_
  refine Zm ?_
  refine Zv _ (fun _ fr => x_not rfl (fr.ev rfl) rfl) ?_
  refine Znn ?_
  refine Zcd (fun hc15 => ?_) (fun hc15 => ?_)
  ·refine Zsr ?_
   refine Za ?_
   refine Za ?_
   refine Znn ?_
   refine Zrt ?_
   refine Zr1 ?_
   refine Zre rfl [_, _] ⟨rfl, rfl, trivial⟩ ?_
   have hnr : ¬ rightA addr width = false := by rw [hrt]; decide
   have hq : readF L addr width = (0, 232) := by unfold readF; rw [if_neg hnr]; cases hg : getN L (addr / 16) with
   | none => rfl
   | some x => simp [hg] at hc15
   rw [hq]
   replace hF := (hF.trNew hN10).loc hO14 (.inr g_b8)
   exact ⟨_, rfl, rfl, hF⟩
  ·refine Zsk ?_
   refine Znx ?_
   refine Zsr ?_
   refine Za ?_
   refine Znn ?_
   refine Zsq ?_
   refine Zsr ?_
   refine Zm ?_
   refine Zm ?_
   refine Znn ?_
   refine Zbl ?_
   intro a fr
   replace hB := (hB.new hN10).only hO14 ne_b_b8
   replace hL := (hL.new hN10).only hO14 (ne1P ap_FpL_b8)
   replace hF := (hF.trNew hN10).loc hO14 (.inr g_b8)
   refine fx_loop (fun nM a wL => ∃ j : Nat, nM = (width - j).toNat ∧ Fr (55, []) [(0, .pointer (some ⟨b, 0, none⟩)), (1, .int .u32 addr), (2, .int .i64 width), (8, .int .u32 (addr / 16)), (9, .int .i64 (addr % 16)), (11, .pointer (some ⟨b8, 0, none⟩)), (37, .int .i64 width), (13, .int .u32 (rdI ((getN L (addr / 16)).getD ln0).bs.1 (addr % 16).toNat j)), (38, .int .i64 ((j : Nat) : Int))] a ∧ Only (fun _ => False) w wL ∧ Blk wL b 83 #[.int .i64 id, .pointer (some ⟨lb, 0, none⟩), pa, pg] ∧ LinesAt wL FpL lb n ways L ∧ Blk wL b8 39 (lnE.arr ((getN L (addr / 16)).getD ln0)) ∧ ((j : Nat) : Int) ≤ width) (n0 := _) ⟨0, rfl, fr.sub ⟨rfl, rfl, rfl, rfl, rfl, rfl, rfl, rfl, rfl, trivial⟩, hF, hB, hL, B11, by omega⟩ ?_
   clear fr a
   rintro n17 a w16 ⟨j, rfl, fr, hF, hB, hL, B11, hj⟩
   revert a
   refine Zsr ?_
   refine Zv _ (fun _ fr => x_lss rfl (fr.ev rfl) (fr.ev rfl) rfl) ?_
   refine Znn ?_
   refine Zsq ?_
   refine Zcd (fun hc18 => ?_) (fun hc18 => ?_)
   ·have hc18 := of_decide_eq_true hc18
    refine Zsk ?_
    refine Znx ?_
    refine Zsq ?_
    refine Zbl ?_
    refine Zsr ?_
    refine Zm ?_
    refine Za ?_
    refine Znn ?_
    refine Zrg ?_
    refine Zm ?_
    refine Zm ?_
    refine Zm ?_
    refine Zv _ (fun _ fr => x_add rfl (fr.ev rfl) (fr.ev rfl) (i64w (r := ((((addr % 16).toNat) + j : Nat) : Int)) (by omega) (by omega))) ?_
    refine Zf fo39_2 ?_
    refine Zv (.pointer (some ⟨b8, 2 + (((addr % 16).toNat) + j), none⟩)) (fun _ fr => x_indexArr Try.underlying22 sz16 rfl (fr.ev rfl) (fr.ev rfl) (by omega) (show 2 + (((addr % 16).toNat) + j) * 1 = 2 + (((addr % 16).toNat) + j) by omega)) ?_
    refine Zd (v := .int .u8 (((getN L (addr / 16)).getD ln0).bs.1.getD (((addr % 16).toNat) + j) 0)) pl5 (B11.cell _ (ln_cell ((getN L (addr / 16)).getD ln0) (j := ((addr % 16).toNat) + j) (by omega))) ?_
    refine Zv (.int .u32 (((getN L (addr / 16)).getD ln0).bs.1.getD (((addr % 16).toNat) + j) 0)) (fun _ fr => x_convert Try.underlying5 Try.underlying32 rfl (fr.ev rfl) (u32w (r := ((getN L (addr / 16)).getD ln0).bs.1.getD (((addr % 16).toNat) + j) 0) rfl (by have := getD_bd ((getN L (addr / 16)).getD ln0).bs.2.2 (((addr % 16).toNat) + j); omega))) ?_
    refine Zm ?_
    refine Zv _ (fun _ fr => x_mul rfl rfl (fr.ev rfl) (i64w (r := ((8 * j : Nat) : Int)) (by omega) (by omega))) ?_
    refine Zv (.int .u32 (((getN L (addr / 16)).getD ln0).bs.1.getD (((addr % 16).toNat) + j) 0 * 256 ^ j)) (fun _ fr => x_shl rfl (fr.ev rfl) (fr.ev rfl) (by omega) (sh_up (getD_bd ((getN L (addr / 16)).getD ln0).bs.2.2 (((addr % 16).toNat) + j)) (by omega))) ?_
    refine Zv (.int .u32 (rdI ((getN L (addr / 16)).getD ln0).bs.1 (addr % 16).toNat (j + 1))) (fun _ fr => x_or rfl (fr.ev rfl) (fr.ev rfl) (rd_or ((getN L (addr / 16)).getD ln0).bs (addr % 16).toNat j (by omega))) ?_
    refine Za ?_
    refine Znl ?_
    refine Zb ?_
    refine Znx ?_
    refine Zrg ?_
    refine Zv _ (fun _ fr => x_add rfl (fr.ev rfl) rfl (i64w (r := ((j + 1 : Nat) : Int)) (by omega) (by omega))) ?_
    refine Zm ?_
    intro a fr
    refine wpList_nil ?_
    refine fx_next ?_
    exact ⟨_, by omega, (j + 1), rfl, fr.sub ⟨rfl, rfl, rfl, rfl, rfl, rfl, rfl, rfl, rfl, trivial⟩, hF, hB, hL, B11, by omega⟩
   ·have hc18 := of_decide_eq_false hc18
    refine Zex ?_
    refine Zxt ?_
    refine Zxt ?_
    refine Zxx ?_
    refine Znx ?_
    refine Zsr ?_
    refine Zm ?_
    refine Za ?_
    refine Za ?_
    refine Znn ?_
    refine Zrt ?_
    refine Zre rfl [_, _] ⟨rfl, rfl, trivial⟩ ?_
    have hnr : ¬ rightA addr width = false := by rw [hrt]; decide
    obtain rfl : j = width.toNat := by omega
    have hq : readF L addr width = (rdI ((getN L (addr / 16)).getD ln0).bs.1 (addr % 16).toNat width.toNat, 0) := by unfold readF; rw [if_neg hnr]; cases hg : getN L (addr / 16) with
    | none => simp [hg] at hc15
    | some x => rfl
    rw [hq]
    exact ⟨_, rfl, rfl, hF⟩
set_option maxRecDepth 100000 in
set_option maxHeartbeats 4000000 in
theorem write_a (addr : Int) (ha : 0 ≤ addr ∧ addr < 4294967296) (width : Int) {w : World} {Fp : Nat → Prop} {b : Nat} {id : Int} {n : Nat} {ways : Int} {L : List Ln} {ask : Option (Int × Bool)} {giv : Option Ln} (H : CacheAt w Fp b ⟨id, n, ways, L, ask, giv⟩) (value : Int) (hrt : rightA addr width = false)  : Calls Try.prog 15 #[.pointer (some ⟨b, 0, none⟩), .int .u32 addr, .int .i64 width, .int .u32 value] w (Ret fun v w' => WriteR w Fp b (writeF ⟨id, n, ways, L, ask, giv⟩ addr width value) v w') := by
 have H9 := H
 obtain ⟨lb, FpL, pa, pg, FpA, FpG, hB, hL, hA, hG, hP⟩ := H
 dsimp only at hB hL hA hG
 obtain ⟨hn1, hn2, hw1, hw2⟩ := hL.bd
 have hF := Only.refl (fun _ => False) w
 refine Zen 61 Try.func15 ?_
 refine Zsr ?_
 refine Za ?_
 refine Znn ?_
 refine Zsq ?_
 refine Zsr ?_
 refine Zm ?_
 refine Zk cf43 (cnone_c hB) ?_
 rintro v w9 ⟨rfl, hw9⟩
 obtain rfl := hw9.symm
 refine Znn ?_
 refine Zcf ?_
 refine Zsk ?_
 refine Znx ?_
 refine Zsr ?_
 refine Zm ?_
 refine Zm ?_
 refine Zk (args := #[.int .u32 addr, .int .i64 width]) cf54 (place_c addr width (by omega) _) ?_
 rintro v w9 ⟨rfl, hw9⟩
 obtain rfl := hw9.symm
 refine Zm ?_
 refine Zt ?_
 refine Zt ?_
 refine Zt ?_
 refine Za ?_
 refine Za ?_
 refine Za ?_
 refine Znn ?_
 refine Zsq ?_
 refine Zsq ?_
 intro a fr
 rw [hrt] at fr
 revert a
 refine Zrg ?_
 refine Zm ?_
 refine Zv (.bool true) (fun _ fr => x_not rfl (fr.ev rfl) rfl) ?_
 refine Znn ?_
 refine Zct ?_
 refine Zsr ?_
 refine Za ?_
 refine Znn ?_
 refine Zrt ?_
 refine Zr1 ?_
 refine Zre rfl [_] ⟨rfl, trivial⟩ ?_
 exact ⟨_, rfl, wr_no (by unfold writeF; rw [if_pos hrt]) H9 hF⟩
set_option maxRecDepth 100000 in
set_option maxHeartbeats 4000000 in
theorem write_m (addr : Int) (ha : 0 ≤ addr ∧ addr < 4294967296) (width : Int) {w : World} {Fp : Nat → Prop} {b : Nat} {id : Int} {n : Nat} {ways : Int} {L : List Ln} {ask : Option (Int × Bool)} {giv : Option Ln} (H : CacheAt w Fp b ⟨id, n, ways, L, ask, giv⟩) (value : Int) (hrt : rightA addr width = true) (hwt : writesB (stateOf L (addr / 16)) = false)  : Calls Try.prog 15 #[.pointer (some ⟨b, 0, none⟩), .int .u32 addr, .int .i64 width, .int .u32 value] w (Ret fun v w' => WriteR w Fp b (writeF ⟨id, n, ways, L, ask, giv⟩ addr width value) v w') := by
 have hwx : writesB (((getN L (addr / 16)).getD ln0).state) = false := hwt
 have H9 := H
 obtain ⟨lb, FpL, pa, pg, FpA, FpG, hB, hL, hA, hG, hP⟩ := H
 dsimp only at hB hL hA hG
 obtain ⟨hn1, hn2, hw1, hw2⟩ := hL.bd
 have hF := Only.refl (fun _ => False) w
 refine Zen 61 Try.func15 ?_
 refine Zsr ?_
 refine Za ?_
 refine Znn ?_
 refine Zsq ?_
 refine Zsr ?_
 refine Zm ?_
 refine Zk cf43 (cnone_c hB) ?_
 rintro v w9 ⟨rfl, hw9⟩
 obtain rfl := hw9.symm
 refine Znn ?_
 refine Zcf ?_
 refine Zsk ?_
 refine Znx ?_
 refine Zsr ?_
 refine Zm ?_
 refine Zm ?_
 refine Zk (args := #[.int .u32 addr, .int .i64 width]) cf54 (place_c addr width (by omega) _) ?_
 rintro v w9 ⟨rfl, hw9⟩
 obtain rfl := hw9.symm
 refine Zm ?_
 refine Zt ?_
 refine Zt ?_
 refine Zt ?_
 refine Za ?_
 refine Za ?_
 refine Za ?_
 refine Znn ?_
 refine Zsq ?_
 refine Zsq ?_
 intro a fr
 rw [hrt] at fr
 revert a
 refine Zrg ?_
 refine Zm ?_
 refine Zv (.bool false) (fun _ fr => x_not rfl (fr.ev rfl) rfl) ?_
 refine Znn ?_
 refine Zcf ?_
 refine Zsk ?_
 refine Znx ?_
 refine Zsq ?_
 have hrd := rightA_yes (by omega) hrt
 refine Zrg ?_
 refine Zm ?_
 refine Zn ?_
 refine Zf fo83_1 ?_
 refine Zd pl79 (hB.cell 1 rfl) ?_
 refine Zm ?_
 refine Zk (args := #[.pointer (some ⟨lb, 0, none⟩), .int .u32 (addr / 16)]) cf55 (find_c (addr / 16) (by omega) hL) ?_
 rintro v w5 ⟨rfl, hN6⟩
 refine Zm ?_
 refine Zt ?_
 refine Zt ?_
 refine Zna (z := zv1) (cs := lnE.arr ln0) (by kernel_rfl) fun b7 w8 hN9 B10 hb11 => ?_
 replace hF := hF.trNew hN6
 have g_b7 := Nat.le_trans hF.size hb11
 refine ZsS sz39 (lnE.all _) B10 (lnE.size _) (lnE.size _) fun w12 hO13 hBq => ?_
 replace B10 := hBq
 clear hBq
 refine Za ?_
 refine Znn ?_
 refine Zsq ?_
 refine Zsr ?_
 refine Zf fo39_1 ?_
 refine Zd (v := .int .i64 (((getN L (addr / 16)).getD ln0).state)) pl36 (B10.cell 1 rfl) ?_
 refine Zk cf44 (writes_c (((getN L (addr / 16)).getD ln0).state) _) ?_
 rintro v _ ⟨rfl, hw9⟩
 obtain rfl := hw9.symm
 intro a fr
 rw [hwx] at fr
 revert a
 refine Zv (.bool true) (fun _ fr => x_not rfl (fr.ev rfl) rfl) ?_
 refine Znn ?_
 refine Zct ?_
 refine Zsr ?_
 refine Za ?_
 refine Znn ?_
 refine Zrt ?_
 refine Zr1 ?_
 refine Zre rfl [_] ⟨rfl, trivial⟩ ?_
 replace hF := (hF.trNew hN9).loc hO13 (.inr g_b7)
 exact ⟨_, rfl, wr_no (by unfold writeF; rw [if_neg (by rw [hrt]; decide), if_pos hwt]) H9 hF⟩
set_option maxRecDepth 100000 in
set_option maxHeartbeats 4000000 in
theorem write_y (addr : Int) (ha : 0 ≤ addr ∧ addr < 4294967296) (width : Int) {w : World} {Fp : Nat → Prop} {b : Nat} {id : Int} {n : Nat} {ways : Int} {L : List Ln} {ask : Option (Int × Bool)} {giv : Option Ln} (H : CacheAt w Fp b ⟨id, n, ways, L, ask, giv⟩) (value : Int) (hrt : rightA addr width = true) (hwt : writesB (stateOf L (addr / 16)) = true)  : Calls Try.prog 15 #[.pointer (some ⟨b, 0, none⟩), .int .u32 addr, .int .i64 width, .int .u32 value] w (Ret fun v w' => WriteR w Fp b (writeF ⟨id, n, ways, L, ask, giv⟩ addr width value) v w') := by
 have hwx : writesB (((getN L (addr / 16)).getD ln0).state) = true := hwt
 have H9 := H
 obtain ⟨lb, FpL, pa, pg, FpA, FpG, hB, hL, hA, hG, hP⟩ := H
 dsimp only at hB hL hA hG
 have ap_FpL_b := hP.lb
 have ap_FpA_b := hP.ab
 have ap_FpG_b := hP.gb
 have ap2_FpL_FpA := hP.la
 have ap2_FpL_FpG := hP.lg
 have ap2_FpA_FpG := hP.ag
 obtain ⟨hn1, hn2, hw1, hw2⟩ := hL.bd
 have gA_FpL : ∀ g, FpL g → Fp g ∨ w.heap.size ≤ g := fun g hg => .inl ((hP.foot g).2 (.inr (.inl hg)))
 have gA_FpA : ∀ g, FpA g → Fp g ∨ w.heap.size ≤ g := fun g hg => .inl ((hP.foot g).2 (.inr (.inr (.inl hg))))
 have gA_FpG : ∀ g, FpG g → Fp g ∨ w.heap.size ≤ g := fun g hg => .inl ((hP.foot g).2 (.inr (.inr (.inr hg))))
 have hF := Only.refl (Fp) w
 refine Zen 61 Try.func15 ?_
 refine Zsr ?_
 refine Za ?_
 refine Znn ?_
 refine Zsq ?_
 refine Zsr ?_
 refine Zm ?_
 refine Zk cf43 (cnone_c hB) ?_
 rintro v w9 ⟨rfl, hw9⟩
 obtain rfl := hw9.symm
 refine Znn ?_
 refine Zcf ?_
 refine Zsk ?_
 refine Znx ?_
 refine Zsr ?_
 refine Zm ?_
 refine Zm ?_
 refine Zk (args := #[.int .u32 addr, .int .i64 width]) cf54 (place_c addr width (by omega) _) ?_
 rintro v w9 ⟨rfl, hw9⟩
 obtain rfl := hw9.symm
 refine Zm ?_
 refine Zt ?_
 refine Zt ?_
 refine Zt ?_
 refine Za ?_
 refine Za ?_
 refine Za ?_
 refine Znn ?_
 refine Zsq ?_
 refine Zsq ?_
 intro a fr
 rw [hrt] at fr
 revert a
 refine Zrg ?_
 refine Zm ?_
 refine Zv (.bool false) (fun _ fr => x_not rfl (fr.ev rfl) rfl) ?_
 refine Znn ?_
 refine Zcf ?_
 refine Zsk ?_
 refine Znx ?_
 refine Zsq ?_
 have hrd := rightA_yes (by omega) hrt
 refine Zrg ?_
 refine Zm ?_
 refine Zn ?_
 refine Zf fo83_1 ?_
 refine Zd pl79 (hB.cell 1 rfl) ?_
 refine Zm ?_
 refine Zk (args := #[.pointer (some ⟨lb, 0, none⟩), .int .u32 (addr / 16)]) cf55 (find_c (addr / 16) (by omega) hL) ?_
 rintro v w5 ⟨rfl, hN6⟩
 refine Zm ?_
 refine Zt ?_
 refine Zt ?_
 refine Zna (z := zv1) (cs := lnE.arr ln0) (by kernel_rfl) fun b7 w8 hN9 B10 hb11 => ?_
 replace hB := hB.new hN6
 have ne_b_b7 : NE b b7 := NE.mk (Nat.lt_of_lt_of_le hB.lt hb11)
 replace hL := hL.new hN6
 have ap_FpL_b7 : ¬ FpL b7 := hL.apart hb11
 replace hA := hA.new hN6
 have ap_FpA_b7 : ¬ FpA b7 := hA.apart hb11
 replace hG := hG.new hN6
 have ap_FpG_b7 : ¬ FpG b7 := hG.apart hb11
 replace hF := hF.trNew hN6
 have g_b7 := Nat.le_trans hF.size hb11
 refine ZsS sz39 (lnE.all _) B10 (lnE.size _) (lnE.size _) fun w12 hO13 hBq => ?_
 replace B10 := hBq
 clear hBq
 refine Za ?_
 refine Znn ?_
 refine Zsq ?_
 refine Zsr ?_
 refine Zf fo39_1 ?_
 refine Zd (v := .int .i64 (((getN L (addr / 16)).getD ln0).state)) pl36 (B10.cell 1 rfl) ?_
 refine Zk cf44 (writes_c (((getN L (addr / 16)).getD ln0).state) _) ?_
 rintro v _ ⟨rfl, hw9⟩
 obtain rfl := hw9.symm
 intro a fr
 rw [hwx] at fr
 revert a
 refine Zv (.bool false) (fun _ fr => x_not rfl (fr.ev rfl) rfl) ?_
 refine Znn ?_
 refine Zcf ?_
 refine Zsk ?_
 refine Znx ?_
 refine Zsq ?_
 refine Zsr ?_
 refine Zm ?_
 refine Zm ?_
 refine Znn ?_
 refine Zbl ?_
 intro a fr
 replace hB := (hB.new hN9).only hO13 ne_b_b7
 replace hL := (hL.new hN9).only hO13 (ne1P ap_FpL_b7)
 replace hA := (hA.new hN9).only hO13 (ne1P ap_FpA_b7)
 replace hG := (hG.new hN9).only hO13 (ne1P ap_FpG_b7)
 replace hF := (hF.trNew hN9).loc hO13 (.inr g_b7)
 refine fx_loop (fun nM a wL => ∃ j : Nat, nM = (width - j).toNat ∧ Fr (61, []) [(0, .pointer (some ⟨b, 0, none⟩)), (1, .int .u32 addr), (2, .int .i64 width), (3, .int .u32 value), (9, .int .u32 (addr / 16)), (10, .int .i64 (addr % 16)), (12, .pointer (some ⟨b7, 0, none⟩)), (39, .int .i64 width), (40, .int .i64 ((j : Nat) : Int))] a ∧ Only (Fp) w wL ∧ Blk wL b 83 #[.int .i64 id, .pointer (some ⟨lb, 0, none⟩), pa, pg] ∧ LinesAt wL FpL lb n ways L ∧ AskAt wL FpA pa ask ∧ GivAt wL FpG pg giv ∧ Blk wL b7 39 (lnE.arr { ((getN L (addr / 16)).getD ln0) with bs := wrB ((getN L (addr / 16)).getD ln0).bs (addr % 16).toNat value j }) ∧ ((j : Nat) : Int) ≤ width) (n0 := _) ⟨0, rfl, fr.sub ⟨rfl, rfl, rfl, rfl, rfl, rfl, rfl, rfl, rfl, trivial⟩, hF, hB, hL, hA, hG, B10, by omega⟩ ?_
 clear fr a
 rintro n17 a w16 ⟨j, rfl, fr, hF, hB, hL, hA, hG, B10, hj⟩
 revert a
 refine Zsr ?_
 refine Zv _ (fun _ fr => x_lss rfl (fr.ev rfl) (fr.ev rfl) rfl) ?_
 refine Znn ?_
 refine Zsq ?_
 refine Zcd (fun hc18 => ?_) (fun hc18 => ?_)
 ·have hc18 := of_decide_eq_true hc18
  refine Zsk ?_
  refine Znx ?_
  refine Zsq ?_
  refine Zbl ?_
  refine Zsr ?_
  refine Zm ?_
  refine Za ?_
  refine Znn ?_
  refine Zrg ?_
  refine Zm ?_
  refine Zm ?_
  refine Zv _ (fun _ fr => x_add rfl (fr.ev rfl) (fr.ev rfl) (i64w (r := ((((addr % 16).toNat) + j : Nat) : Int)) (by omega) (by omega))) ?_
  refine Zm ?_
  refine Zm ?_
  refine Zv _ (fun _ fr => x_mul rfl rfl (fr.ev rfl) (i64w (r := ((8 * j : Nat) : Int)) (by omega) (by omega))) ?_
  refine Zv (.int .u32 (value / 256 ^ j)) (fun _ fr => x_shr rfl (fr.ev rfl) (fr.ev rfl) (by omega) (sh_dn (by omega))) ?_
  refine Zv _ (fun _ fr => x_convert Try.underlying32 Try.underlying5 rfl (fr.ev rfl) (u8m _)) ?_
  refine Zf fo39_2 ?_
  refine Zv (.pointer (some ⟨b7, 2 + (((addr % 16).toNat) + j), none⟩)) (fun _ fr => x_indexArr Try.underlying22 sz16 rfl (fr.ev rfl) (fr.ev rfl) (by omega) (show 2 + (((addr % 16).toNat) + j) * 1 = 2 + (((addr % 16).toNat) + j) by omega)) ?_
  refine Zs1 (cs' := lnE.arr { ((getN L (addr / 16)).getD ln0) with bs := wrB ((getN L (addr / 16)).getD ln0).bs (addr % 16).toNat value (j + 1) }) sz5 B10 (by rw [lnE.size]; show _ < 18; omega) (ln_setb ((getN L (addr / 16)).getD ln0) (addr % 16).toNat j value (by omega)) fun w19 hO20 hBq => ?_
  replace B10 := hBq
  clear hBq
  refine Znl ?_
  refine Zb ?_
  refine Znx ?_
  refine Zrg ?_
  refine Zv _ (fun _ fr => x_add rfl (fr.ev rfl) rfl (i64w (r := ((j + 1 : Nat) : Int)) (by omega) (by omega))) ?_
  refine Zm ?_
  intro a fr
  refine wpList_nil ?_
  refine fx_next ?_
  replace hB := hB.only hO20 ne_b_b7
  replace hL := hL.only hO20 (ne1P ap_FpL_b7)
  replace hA := hA.only hO20 (ne1P ap_FpA_b7)
  replace hG := hG.only hO20 (ne1P ap_FpG_b7)
  replace hF := hF.loc hO20 (.inr g_b7)
  exact ⟨_, by omega, (j + 1), rfl, fr.sub ⟨rfl, rfl, rfl, rfl, rfl, rfl, rfl, rfl, rfl, trivial⟩, hF, hB, hL, hA, hG, B10, by omega⟩
 ·have hc18 := of_decide_eq_false hc18
  refine Zex ?_
  refine Zxt ?_
  refine Zxt ?_
  refine Zxx ?_
  refine Znx ?_
  refine Zsr ?_
  refine Zf fo39_1 ?_
  refine Zs1 (cs' := lnE.arr { { ((getN L (addr / 16)).getD ln0) with bs := wrB ((getN L (addr / 16)).getD ln0).bs (addr % 16).toNat value j } with state := 3 }) sz36 B10 (by rw [lnE.size]; decide) (ln_setstate _ _) fun w21 hO22 hBq => ?_
  replace B10 := hBq
  clear hBq
  refine Znn ?_
  refine Zsq ?_
  obtain rfl : j = width.toNat := by omega
  replace B10 : Blk w21 b7 39 (lnE.arr (wrLn ((getN L (addr / 16)).getD ln0) addr width value)) := B10
  have hpe := put_there (n := n) (ways := ways) hwx (wrLn ((getN L (addr / 16)).getD ln0) addr width value) rfl rfl
  have hxw := (wrLn ((getN L (addr / 16)).getD ln0) addr width value).hn
  refine ZhT (n := 6) 6 (fun w => Blk w b 83 #[.int .i64 id, .pointer (some ⟨lb, 0, none⟩), pa, pg] ∧ Blk w b7 39 (lnE.arr (wrLn ((getN L (addr / 16)).getD ln0) addr width value)) ∧ True) ?_
  intro w23 hN24
  replace hB := (hB.only hO22 ne_b_b7).new hN24
  replace B10 := B10.new hN24
  have hS9 := And.intro hB (And.intro B10 trivial)
  refine Zhm 0 hS9 ?_
  refine Zhc 1 hS9 ?_
  refine Zhf 2 fo83_1 hS9 ?_
  refine Zhl 3 pl79 hS9 (fun _ ⟨hB, _⟩ => (hB.cell 1 rfl)) ?_
  refine ZhE 4 lnE ag39 hS9 (fun _ ⟨_, B10, _⟩ => (B10.rangeE lnE)) ?_
  refine Zh1 5 ?_
  replace hL := (hL.only hO22 (ne1P ap_FpL_b7)).new hN24
  refine Zk cf56 (put_c (wrLn ((getN L (addr / 16)).getD ln0) addr width value) hL) ?_
  rintro v w28 ⟨rfl, Fp25, H26, hN29, mv27⟩
  have ap_Fp25_b : ¬ Fp25 b := moved_apartP mv27 ap_FpL_b hB.lt
  replace hA := (hA.only hO22 (ne1P ap_FpA_b7)).new hN24
  have ap2_Fp25_FpA : ∀ k, Fp25 k → FpA k → False := moved_apart2P mv27 ap2_FpL_FpA fun _ hg => hA.lt hg
  replace hG := (hG.only hO22 (ne1P ap_FpG_b7)).new hN24
  have ap2_Fp25_FpG : ∀ k, Fp25 k → FpG k → False := moved_apart2P mv27 ap2_FpL_FpG fun _ hg => hG.lt hg
  replace hF := (hF.loc hO22 (.inr g_b7)).trNew hN24
  have gA_Fp25 := gA_movedP hF mv27 gA_FpL
  clear hL
  intro a fr
  rw [hpe] at fr
  revert a
  replace hB := hB.only hN29 ap_FpL_b
  replace B10 := B10.only hN29 ap_FpL_b7
  refine Zhb ⟨hB, B10, trivial⟩ ?_
  refine Zhn ?_
  refine Ztl ?_
  refine Za ?_
  refine Znn ?_
  refine Zrt ?_
  refine Zre rfl [_] ⟨rfl, trivial⟩ ?_
  replace hA := hA.only hN29 (fun g h1 h2 => (symP ap2_FpL_FpA) g h1 h2)
  replace hG := hG.only hN29 (fun g h1 h2 => (symP ap2_FpL_FpG) g h1 h2)
  replace hF := hF.locP hN29 gA_FpL
  exact ⟨_, rfl, wr_ok (show writeF ⟨id, n, ways, L, ask, giv⟩ addr width value = (_, _) by unfold writeF; rw [if_neg (by rw [hrt]; decide), if_neg (by rw [hwt]; decide)]) (fun k => k = b ∨ Fp25 k ∨ FpA k ∨ FpG k) ⟨lb, Fp25, _, _, FpA, FpG, hB, H26, hA, hG, ⟨ap_Fp25_b, ap_FpA_b, ap_FpG_b, ap2_Fp25_FpA, ap2_Fp25_FpG, ap2_FpA_FpG, fun _ => Iff.rfl⟩⟩ hF (fun g hg => hg.elim (fun e => by rw [e]; exact .inl ((hP.foot b).2 (.inl rfl))) fun h => h.elim (gA_Fp25 g) fun h => h.elim (gA_FpA g) (gA_FpG g))⟩
theorem write_c (addr : Int) (ha : 0 ≤ addr ∧ addr < 4294967296) (width : Int) {w : World} {Fp : Nat → Prop} {b : Nat} {id : Int} {n : Nat} {ways : Int} {L : List Ln} {ask : Option (Int × Bool)} {giv : Option Ln} (H : CacheAt w Fp b ⟨id, n, ways, L, ask, giv⟩) (value : Int) : Calls Try.prog 15 #[.pointer (some ⟨b, 0, none⟩), .int .u32 addr, .int .i64 width, .int .u32 value] w (Ret fun v w' => WriteR w Fp b (writeF ⟨id, n, ways, L, ask, giv⟩ addr width value) v w') := by
  cases hr : rightA addr width with
  | false => exact write_a addr ha width H value hr
  | true => cases hw : writesB (stateOf L (addr / 16)) with
    | false => exact write_m addr ha width H value hr hw
    | true => exact write_y addr ha width H value hr hw
end Go.Proofs.Ytflnlmibkbojcaa
namespace Go.Proofs.Ytflnlmibkbojcaa
open Go.RowKit
section
variable {n : Nat} {ways : Int} {L : List Ln} {num k : Int} {x : Ln}
theorem mem_of_get (h : getN L num = some x) : x ∈ L := List.mem_of_find?_eq_some h
theorem drop_lt {l : List Ln} (h : ∃ y ∈ l, y.num = num) : (dropL l num).length < l.length := by
  unfold dropL
  induction l with
  | nil => obtain ⟨y, hy, _⟩ := h; cases hy
  | cons z r ih =>
    by_cases hz : z.num = num
    · rw [List.filter_cons_of_neg (by simp [isNum, hz])]
      have := List.length_filter_le (fun x => !isNum num x) r
      simp only [List.length_cons]
      omega
    · rw [List.filter_cons_of_pos (by simp [isNum, hz])]
      obtain ⟨y, hy, he⟩ := h
      rcases List.mem_cons.1 hy with rfl | hy
      · exact absurd he hz
      · have := ih ⟨y, hy, he⟩
        simp only [List.length_cons]
        omega
theorem get_drop : getN (dropL L k) num = if num = k then none else getN L num := by
  unfold getN dropL
  induction L with
  | nil => simp
  | cons z r ih =>
    by_cases hz : z.num = k
    · rw [List.filter_cons_of_neg (by simp [isNum, hz]), ih]
      by_cases hn : num = k
      · simp [hn]
      · have : isNum num z = false := by simp [isNum, hz]; exact fun e => hn e.symm
        simp [hn, List.find?, this]
    · rw [List.filter_cons_of_pos (by simp [isNum, hz])]
      by_cases hn : num = k
      · have : isNum num z = false := by simp [isNum, hn, hz]
        simp only [List.find?, this, ih]
        try simp [hn]
      · simp only [List.find?, ih, if_neg hn]
theorem get_repl (h : getN L x.num ≠ none) : getN (repl x L) num = if num = x.num then some x else getN L num := by
  unfold getN at *
  induction L with
  | nil => simp at h
  | cons z r ih =>
    by_cases hz : z.num = x.num
    · simp only [repl, if_pos hz]
      by_cases hn : num = x.num
      · simp [hn, List.find?, isNum]
      · have h1 : isNum num x = false := by simp [isNum]; exact fun e => hn e.symm
        have h2 : isNum num z = false := by simp [isNum, hz]; exact fun e => hn e.symm
        simp [hn, List.find?, h1, h2]
    · simp only [repl, if_neg hz]
      have h3 : isNum x.num z = false := by simp [isNum, hz]
      rw [List.find?, h3] at h
      by_cases hn : num = x.num
      · have : isNum num z = false := by simp [isNum, hn, hz]
        simp only [List.find?, this, ih h]
      · simp only [List.find?, ih h, if_neg hn]
theorem mem_ofs (h : x ∈ L) : x ∈ ofs n L (si n x.num) := List.mem_filter.2 ⟨h, by simp [inSet]⟩
theorem HasRoom.drop (hn : 0 < n) (hf : Fits n ways L) (h : HasRoom n ways L num) (k : Int) : HasRoom n ways (dropL L k) num := by
  intro h1
  rw [ofs_drop]
  have h2 := dropL_le (ofs n L (si n num)) k
  have h3 := hf _ (si_lt (num := num) hn)
  cases hg : getN L num with
  | none => have := h hg; omega
  | some y =>
    rw [get_drop, hg] at h1
    split at h1
    · rename_i e
      subst e
      have hy := get_num hg
      have := drop_lt (num := num) (l := ofs n L (si n num)) ⟨y, by have := mem_ofs (n := n) (mem_of_get hg); rwa [hy] at this, hy⟩
      omega
    · cases h1
theorem putL_there (h : getN L x.num ≠ none) (he : putE n ways L x = 0) : putL n ways L x = repl x L := by
  unfold putL
  rw [if_pos he, if_neg h]
theorem HasRoom.repl (h : HasRoom n ways L num) (hx : getN L x.num ≠ none) : HasRoom n ways (repl x L) num := by
  intro h1
  rw [get_repl hx] at h1
  split at h1
  · cases h1
  · by_cases e : si n num = si n x.num
    · rw [e, ofs_repl_same, repl_len, ← e]; exact h h1
    · rw [ofs_repl_other _ _ e]; exact h h1
theorem room_vic (h : vicL n ways L num k = none) : HasRoom n ways L num := by
  intro h1
  unfold vicL at h
  split at h
  · cases h
  · rename_i h2
    have : ¬ ways ≤ ((ofs n L (si n num)).length : Int) := fun h3 => h2 ⟨h1, h3⟩
    omega
theorem vic_mem (hw : 1 ≤ ways) (h : vicL n ways L num k = some x) : x ∈ ofs n L (si n num) ∧ getN L num = none ∧ ways ≤ ((ofs n L (si n num)).length : Int) := by
  unfold vicL at h
  split at h
  · rename_i h2
    cases h
    refine ⟨?_, h2⟩
    have hl : 0 < (ofs n L (si n num)).length := by omega
    have hp := pickAt_lt k _ hl
    simp [List.getD, hp]
  · cases h
theorem room_out (hn : 0 < n) (hw : 1 ≤ ways) (hf : Fits n ways L) (h : vicL n ways L num k = some x) : HasRoom n ways (dropL L x.num) num := by
  intro _
  obtain ⟨h1, h2, h3⟩ := vic_mem hw h
  rw [ofs_drop]
  have h4 := drop_lt (num := x.num) (l := ofs n L (si n num)) ⟨x, h1, rfl⟩
  have h5 := hf _ (si_lt (num := num) hn)
  omega
end
section
variable {d : CD} (hb : 0 < d.n ∧ d.n ≤ 64 ∧ 1 ≤ d.ways ∧ d.ways ≤ 8) (hf : Fits d.n d.ways d.L) (hr : RoomOk d)
include hf hr
theorem RoomOk.drop (hb : 0 < d.n ∧ d.n ≤ 64 ∧ 1 ≤ d.ways ∧ d.ways ≤ 8) (k : Int) (g : Option Ln) : RoomOk { d with L := dropL d.L k, giv := g } := fun l wr h => (hr l wr h).drop hb.1 hf k
include hb
omit hb hf in
theorem write_room (addr width v : Int) : RoomOk (writeF d addr width v).1 := by
  unfold writeF
  split
  · exact hr
  · split
    · exact hr
    · rename_i h
      have h : writesB ((getN d.L (addr / 16)).getD ln0).state = true := by simpa [stateOf] using h
      intro l wr hl
      have hx : getN d.L (wrLn ((getN d.L (addr / 16)).getD ln0) addr width v).num ≠ none := by
        obtain ⟨y, hy, hd⟩ := w_there h
        show getN d.L ((getN d.L (addr / 16)).getD ln0).num ≠ none
        rw [hd, get_num hy, hy]
        simp
      show HasRoom d.n d.ways (putL d.n d.ways d.L _) l
      rw [putL_there hx (put_there h _ rfl rfl)]
      exact (hr l wr hl).repl hx
theorem ask_room (line : Int) (hln : 0 ≤ line ∧ line < 4294967296) (wr : Bool) (pick : Int) : RoomOk (askF d line hln wr pick).1 := by
  unfold askF
  split
  · exact hr
  · split
    · exact hr
    · split
      · rename_i hv
        intro l w' h
        cases h
        exact room_vic hv
      · rename_i x hv
        split
        · intro l w' h
          cases h
          show HasRoom (outF d x).1.n (outF d x).1.ways (outF d x).1.L line
          rename_i ho
          unfold outF at ho ⊢
          split
          · exact room_out hb.1 hb.2.2.1 hf hv
          · split
            · rename_i h1 _ _ h2
              rw [if_neg h1] at ho
              simp [h2] at ho
            · exact room_out hb.1 hb.2.2.1 hf hv
        · exact hr
theorem back_room (m : Msg) : RoomOk (takeF.backF d m).1 := by
  unfold takeF.backF
  split
  · rename_i h
    have h : writesB ((getN d.L m.line).getD ln0).state = true := h
    obtain ⟨y, hy, hd⟩ := w_there h
    rw [hd]
    by_cases hk : m.kind = 4
    · simp only [hk, if_true]
      intro l w' hl
      have hx : getN d.L ({ y with state := 1 } : Ln).num ≠ none := by
        show getN d.L y.num ≠ none
        rw [get_num hy, hy]
        simp
      have hp : putE d.n d.ways d.L { y with state := 1 } = 0 := by
        unfold putE
        rw [if_neg (by simp [okS]), if_neg (fun hh => hx hh.1)]
      show HasRoom d.n d.ways (putL d.n d.ways d.L { y with state := 1 }) l
      rw [putL_there hx hp]
      exact (hr l w' hl).repl hx
    · simp only [if_neg hk]
      exact RoomOk.drop hf hr hb y.num d.giv
  · exact hr
theorem take_room (m : Msg) : RoomOk (takeF d m).1 := by
  unfold takeF
  split
  · exact hr
  split
  · split
    · intro l w' h
      cases h
    · exact hr
  split
  · split
    · split
      · exact hr
      · exact back_room hb hf hr m
    · exact back_room hb hf hr m
  split
  · split
    · exact hr
    · exact RoomOk.drop hf hr hb m.line d.giv
  split
  · exact fun l w' h => hr l w' h
  · exact hr
omit hb hf in
theorem data_room (m : Msg) (h : dataOk d m = true) : putE d.n d.ways d.L (dataLn m) = 0 := by
  unfold dataOk at h
  split at h
  · rename_i l wr ha
    simp only [Bool.and_eq_true, decide_eq_true_eq] at h
    have h1 := hr l wr ha
    rw [h.1] at h1
    have ho : ¬ okS (dataLn m) = false := by
      simp only [okS, dataLn, mkL]
      split <;> decide
    have h2 : (dataLn m).num = m.line := rfl
    unfold putE
    rw [if_neg ho, if_neg]
    rintro ⟨h3, h4⟩
    rw [h2] at h3 h4
    have := h1 h3
    omega
  · cases h
omit hf hr hb in
theorem new_room (id : Int) (n : Nat) (ways : Int) : RoomOk ⟨id, n, ways, [], none, none⟩ := fun l w' h => by cases h
end
end Go.Proofs.Ytflnlmibkbojcaa
namespace Go.Proofs.Ytflnlmibkbojcaa
open Go.RowKit
structure RC where
  id : Int
  n : Int
  ways : Int
  A : Option Addr
  len : Nat
  cap : Nat
  ak : Bool
  al : Int
  aw : Bool
  gv : Bool
  gx : Ln
  deriving DecidableEq
def RC.cells (m : RC) : List Value := .int .i64 m.id :: .int .i64 m.n :: .int .i64 m.ways :: .slice m.A m.len m.cap :: .bool m.ak :: .int .u32 m.al :: .bool m.aw :: .bool m.gv :: m.gx.cells
theorem RC.len_ (m : RC) : m.cells.length = 26 := by simp [RC.cells, m.gx.len]
theorem RC.one_ (m : RC) : ∀ v ∈ m.cells, v.oneCell' = true := by
  intro v hv
  simp only [RC.cells, List.mem_cons] at hv
  rcases hv with rfl | rfl | rfl | rfl | rfl | rfl | rfl | rfl | hv
  iterate 8 rfl
  exact m.gx.one v hv
def rcE : Enc Try.prog RC where
  T := 42
  n := 26
  cells := RC.cells
  len := RC.len_
  one := RC.one_
  pos := by decide
def rc0 : RC := ⟨0, 0, 0, none, 0, 0, false, 0, false, false, ln0⟩
section
variable (m : RC)
theorem rc_set3 (A : Option Addr) (n c : Nat) : (rcE.arr m).setIfInBounds 3 (.slice A n c) = rcE.arr (RC.mk m.id m.n m.ways A n c m.ak m.al m.aw m.gv m.gx) := by simp [Enc.arr, rcE, RC.cells]
theorem rc_back : ((rcE.arr m).toList.drop 8).take 18 = lnE.cells m.gx := by
  rw [rcE.toList]
  show (m.cells.drop 8).take 18 = m.gx.cells
  simp only [RC.cells, List.drop_succ_cons, List.drop_zero]
  exact List.take_of_length_le (by rw [m.gx.len]; omega)
end
def wl (n : Nat) (x : Ln) (there : Bool) : List Ln → Bool → List Ln
  | [], put => if there || put then [] else [x]
  | l :: r, put => (if !there && !put && decide (si n x.num < si n l.num) then [x] else []) ++ (if l.num = x.num then x else l) :: wl n x there r (put || (!there && !put && decide (si n x.num < si n l.num)))
def withF (n : Nat) (M : List Ln) (x : Ln) : List Ln := wl n x (decide (0 ≤ fndI M x.num)) M false
theorem drop_at {M : List Ln} {k : Nat} (h : k < M.length) : M.drop k = M.getD k ln0 :: M.drop (k + 1) := by
  rw [List.drop_eq_getElem_cons h]
  simp [List.getD, h]
theorem wl_end {n : Nat} {x : Ln} {t p : Bool} {M : List Ln} {k : Nat} (h : M.length ≤ k) : wl n x t (M.drop k) p = if t || p then [] else [x] := by
  rw [List.drop_eq_nil_of_le h]
  rfl
theorem state_at {M : List Ln} {num : Int} {i : Nat} (hi : i < M.length) (h : (M.getD i ln0).num = num) (hall : ∀ j, j < i → ¬ (M.getD j ln0).num = num) : stateOf M num = (M.getD i ln0).state := by
  unfold stateOf
  rw [get_at hi h hall]
  rfl
theorem state_no {M : List Ln} {num : Int} (h : fndI M num = -1 ∧ ∀ x ∈ M, ¬ x.num = num) : stateOf M num = 0 := by
  unfold stateOf
  rw [fnd_none h]
  rfl
end Go.Proofs.Ytflnlmibkbojcaa
namespace Go.Proofs.Ytflnlmibkbojcaa
open Go.RowKit
set_option maxRecDepth 100000 in
set_option maxHeartbeats 4000000 in
theorem rcset_c (num : Int) (hnum : 0 ≤ num ∧ num < 4294967296) {id : Int} {n : Nat} {ways : Int} {A : Option Addr} {cap : Nat} {L : List Ln} {ak : Bool} {al : Int} {aw gv : Bool} {gx : Ln} (hn : 0 < n) (w : World) : Calls Try.prog 61 #[.agg (rcE.arr (RC.mk id ((n : Nat) : Int) ways A L.length cap (ak) al (aw) (gv) gx)), .int .u32 num] w (Ret fun v w' => v = .int .i64 ((si n num : Nat) : Int) ∧ New w w') := by
 have hF := Only.refl (fun _ => False) w
 refine Zen 10 Try.func61 ?_
 refine Zsr ?_
 refine Znb (cs := rcE.arr (RC.mk id ((n : Nat) : Int) ways A L.length cap (ak) al (aw) (gv) gx)) fun b1 w2 hN3 B4 hb5 => ?_
 refine Za ?_
 refine Znn ?_
 refine Zsr ?_
 refine Zm ?_
 refine Zv (.int .i64 num) (fun _ fr => x_convert Try.underlying32 Try.underlying3 rfl (fr.ev rfl) (i64w (r := num) rfl (by omega))) ?_
 refine Zf fo42_1 ?_
 refine Zd (v := .int .i64 ((n : Nat) : Int)) pl3 (B4.cell 1 rfl) ?_
 refine Zv (.int .i64 ((si n num : Nat) : Int)) (fun _ fr => x_rem rfl (fr.ev rfl) (fr.ev rfl) (by omega) (tmod_si (by omega) (by omega))) ?_
 refine Za ?_
 refine Znn ?_
 refine Zrt ?_
 refine Zre rfl [_] ⟨rfl, trivial⟩ ?_
 replace hF := hF.trNew hN3
 exact ⟨_, rfl, rfl, hF⟩
set_option maxRecDepth 100000 in
set_option maxHeartbeats 4000000 in
theorem rcfind_c (num : Int) {w : World} {id : Int} {n : Nat} {ways : Int} {A : Option Addr} {cap : Nat} {L : List Ln} {ak : Bool} {al : Int} {aw gv : Bool} {gx : Ln} (hV : View lnE w A cap L)  : Calls Try.prog 58 #[.agg (rcE.arr (RC.mk id ((n : Nat) : Int) ways A L.length cap (ak) al (aw) (gv) gx)), .int .u32 num] w (Ret fun v w' => v = .int .i64 (fndI L num) ∧ New w w') := by
 have hVl := hV.len
 unfold maxLen at hVl
 have hF := Only.refl (fun _ => False) w
 refine Zen 22 Try.func58 ?_
 refine Zsr ?_
 refine Znb (cs := rcE.arr (RC.mk id ((n : Nat) : Int) ways A L.length cap (ak) al (aw) (gv) gx)) fun b1 w2 hN3 B4 hb5 => ?_
 refine Za ?_
 refine Znn ?_
 refine Zsq ?_
 refine Zsr ?_
 refine Za ?_
 refine Znn ?_
 refine Zbl ?_
 intro a fr
 replace hV := hV.new hN3
 replace hF := hF.trNew hN3
 refine fx_loop (fun nM a wL => ∃ i : Nat, nM = L.length - i ∧ Fr (22, []) [(1, .int .u32 num), (2, .pointer (some ⟨b1, 0, none⟩)), (5, .int .i64 ((i : Nat) : Int))] a ∧ Only (fun _ => False) w wL ∧ View lnE wL A cap L ∧ Blk wL b1 42 (rcE.arr (RC.mk id ((n : Nat) : Int) ways A L.length cap (ak) al (aw) (gv) gx)) ∧ i ≤ L.length ∧ (∀ j, j < i → ¬ (L.getD j ln0).num = num)) (n0 := _) ⟨0, rfl, fr.sub ⟨rfl, rfl, rfl, trivial⟩, hF, hV, B4, by omega, (fun j hj => absurd hj (by omega))⟩ ?_
 clear fr a
 rintro n7 a w6 ⟨i, rfl, fr, hF, hV, B4, hi, hall⟩
 revert a
 refine Zsq ?_
 refine Zsr ?_
 refine Zm ?_
 refine Zf fo42_3 ?_
 refine Zd (v := .slice A L.length cap) pl40 (B4.cell 3 rfl) ?_
 refine Zv _ (fun _ fr => x_len Try.underlying40 rfl (fr.ev rfl)) ?_
 refine Zv _ (fun _ fr => x_lss rfl (fr.ev rfl) (fr.ev rfl) rfl) ?_
 refine Znn ?_
 refine Zcd (fun hc8 => ?_) (fun hc8 => ?_)
 ·have hc8 := of_decide_eq_true hc8
  refine Zsk ?_
  refine Znx ?_
  refine Zsq ?_
  refine Zbl ?_
  refine Zsr ?_
  refine Zf fo42_3 ?_
  refine Zd (v := .slice A L.length cap) pl40 (B4.cell 3 rfl) ?_
  refine Zm ?_
  obtain ⟨g9, o10, hA11⟩ := (hV).some_ (by omega)
  refine Zv (.pointer (some ⟨g9, o10 + i * 18, none⟩)) (fun _ fr => x_indexV Try.underlying40 sz39 rfl (fr.ev rfl) hA11 (fr.ev rfl) (by omega) rfl) ?_
  refine Zf fo39_0 ?_
  refine Zd (v := .int .u32 ((L.getD i ln0).num)) pl32 (range_cell ((hV).elem hA11 i ln0 (by omega)) 0 rfl rfl) ?_
  refine Zm ?_
  refine Zv _ (fun _ fr => x_eql rfl (fr.ev rfl) (fr.ev rfl) rfl) ?_
  refine Znn ?_
  refine Zcd (fun hc12 => ?_) (fun hc12 => ?_)
  ·have hc12 := of_decide_eq_true hc12
   refine Zsr ?_
   refine Zm ?_
   refine Za ?_
   refine Znn ?_
   refine Zrt ?_
   refine Zr2 ?_
   refine Zr1 ?_
   refine Zr1 ?_
   refine Zr2 ?_
   refine Zr1 ?_
   refine Zre rfl [_] ⟨rfl, trivial⟩ ?_
   exact ⟨_, rfl, congrArg (Value.int .i64) (fnd_yes (by omega) hc12 hall).symm, hF⟩
  ·have hc12 := of_decide_eq_false hc12
   refine Zsk ?_
   refine Zb ?_
   refine Znx ?_
   refine Zrg ?_
   refine Zm ?_
   refine Zv _ (fun _ fr => x_add rfl (fr.ev rfl) rfl (i64w (r := ((i + 1 : Nat) : Int)) (by omega) (by omega))) ?_
   refine Za ?_
   intro a fr
   refine wpList_nil ?_
   refine fx_next ?_
   exact ⟨_, by omega, (i + 1), rfl, fr.sub ⟨rfl, rfl, rfl, trivial⟩, hF, hV, B4, by omega, fun j hj => by rcases Nat.lt_succ_iff_lt_or_eq.1 hj with h | rfl; exact hall j h; exact hc12⟩
 ·have hc8 := of_decide_eq_false hc8
  refine Zex ?_
  refine Zxt ?_
  refine Zxt ?_
  refine Zxx ?_
  refine Znx ?_
  refine Zsr ?_
  refine Za ?_
  refine Znn ?_
  refine Zrt ?_
  refine Zre rfl [_] ⟨rfl, trivial⟩ ?_
  exact ⟨_, rfl, congrArg (Value.int .i64) (fnd_no fun j hj => hall j (by omega)).symm, hF⟩
set_option maxRecDepth 100000 in
set_option maxHeartbeats 4000000 in
theorem rcstate_c (num : Int) {w : World} {id : Int} {n : Nat} {ways : Int} {A : Option Addr} {cap : Nat} {L : List Ln} {ak : Bool} {al : Int} {aw gv : Bool} {gx : Ln} (hV : View lnE w A cap L)  : Calls Try.prog 60 #[.agg (rcE.arr (RC.mk id ((n : Nat) : Int) ways A L.length cap (ak) al (aw) (gv) gx)), .int .u32 num] w (Ret fun v w' => v = .int .i64 (stateOf L num) ∧ New w w') := by
 have hVl := hV.len
 unfold maxLen at hVl
 have hF := Only.refl (fun _ => False) w
 refine Zen 17 Try.func60 ?_
 refine Zsr ?_
 refine Znb (cs := rcE.arr (RC.mk id ((n : Nat) : Int) ways A L.length cap (ak) al (aw) (gv) gx)) fun b1 w2 hN3 B4 hb5 => ?_
 refine Za ?_
 refine Znn ?_
 refine Zsr ?_
 refine ZE rcE ag42 (B4.rangeE rcE) ?_
 refine Zm ?_
 replace hV := hV.new hN3
 refine Zk cf58 (rcfind_c num (hV)) ?_
 rintro v w6 ⟨rfl, hN7⟩
 refine Za ?_
 refine Znn ?_
 refine Zsq ?_
 refine Zsq ?_
 rcases fnd_spec L num with ⟨hf, hno⟩ | ⟨i, hf, hi, hin, hall⟩
 ·intro a fr
  rw [hf] at fr
  revert a
  refine Zrg ?_
  refine Zm ?_
  refine Zv (.bool true) (fun _ fr => x_lss rfl (fr.ev rfl) rfl rfl) ?_
  refine Znn ?_
  refine Zct ?_
  refine Zsr ?_
  refine Za ?_
  refine Znn ?_
  refine Zrt ?_
  refine Zr1 ?_
  refine Zre rfl [_] ⟨rfl, trivial⟩ ?_
  replace hF := (hF.trNew hN3).trNew hN7
  exact ⟨_, rfl, congrArg (Value.int .i64) ((state_no ⟨hf, hno⟩).symm), hF⟩
 ·intro a fr
  rw [hf] at fr
  revert a
  have hi0 : ¬ ((i : Nat) : Int) < 0 := by omega
  have hi1 : 0 ≤ ((i : Nat) : Int) := by omega
  refine Zrg ?_
  refine Zm ?_
  refine Zv (.bool false) (fun _ fr => x_lss rfl (fr.ev rfl) rfl (decide_eq_false hi0)) ?_
  refine Znn ?_
  refine Zcf ?_
  refine Zsk ?_
  refine Znx ?_
  refine Zsr ?_
  refine Zf fo42_3 ?_
  replace B4 := B4.new hN7
  refine Zd (v := .slice A L.length cap) pl40 (B4.cell 3 rfl) ?_
  refine Zm ?_
  replace hV := hV.new hN7
  obtain ⟨g8, o9, hA10⟩ := (hV).some_ (by omega)
  refine Zv (.pointer (some ⟨g8, o9 + i * 18, none⟩)) (fun _ fr => x_indexV Try.underlying40 sz39 rfl (fr.ev rfl) hA10 (fr.ev rfl) (by omega) rfl) ?_
  refine Zf fo39_1 ?_
  refine Zd (v := .int .i64 ((L.getD i ln0).state)) pl36 (range_cell ((hV).elem hA10 i ln0 (by omega)) 1 rfl rfl) ?_
  refine Za ?_
  refine Znn ?_
  refine Zrt ?_
  refine Zre rfl [_] ⟨rfl, trivial⟩ ?_
  replace hF := (hF.trNew hN3).trNew hN7
  exact ⟨_, rfl, congrArg (Value.int .i64) ((state_at hi hin hall).symm), hF⟩
set_option maxRecDepth 100000 in
set_option maxHeartbeats 4000000 in
theorem rcright_no (addr : Int) (ha : 0 ≤ addr ∧ addr < 4294967296) (width : Int) (hw1 : ¬ width = 1) (hw2 : ¬ width = 2) (hw4 : ¬ width = 4) (w : World) : Calls Try.prog 57 #[.int .u32 addr, .int .i64 width] w (Ret fun v w' => v = .bool false ∧ w' = w) := by
 refine Zen 23 Try.func57 ?_
 refine Zsr ?_
 refine Za ?_
 refine Znn ?_
 refine Zsr ?_
 refine Zm ?_
 refine Zv (.bool false) (fun _ fr => x_eql rfl (fr.ev rfl) rfl (decide_eq_false hw1)) ?_
 refine Zm ?_
 refine Zm ?_
 refine Zv (.bool false) (fun _ fr => x_eql rfl (fr.ev rfl) rfl (decide_eq_false hw2)) ?_
 refine Zpf ?_
 refine Zm ?_
 refine Zm ?_
 refine Zv (.bool false) (fun _ fr => x_eql rfl (fr.ev rfl) rfl (decide_eq_false hw4)) ?_
 refine Zpf ?_
 refine Zm ?_
 refine Zs ?_
 refine Zs ?_
 refine Zs ?_
 refine Zs ?_
 refine Zs ?_
 refine Zs ?_
 refine Zpf ?_
 refine Za ?_
 refine Znn ?_
 refine Zrt ?_
 refine Zre rfl [_] ⟨rfl, trivial⟩ ?_
 exact ⟨_, rfl, rfl, rfl⟩
set_option maxRecDepth 100000 in
set_option maxHeartbeats 4000000 in
theorem rcright_1 (addr : Int) (ha : 0 ≤ addr ∧ addr < 4294967296) (w : World) : Calls Try.prog 57 #[.int .u32 addr, .int .i64 1] w (Ret fun v w' => v = .bool (decide (addr % 1 = 0)) ∧ w' = w) := by
 refine Zen 23 Try.func57 ?_
 refine Zsr ?_
 refine Za ?_
 refine Znn ?_
 refine Zsr ?_
 refine Zm ?_
 refine Zv (.bool true) (fun _ fr => x_eql rfl (fr.ev rfl) rfl rfl) ?_
 refine Zm ?_
 refine Zs ?_
 refine Zs ?_
 refine Zpt ?_
 refine Zm ?_
 refine Zs ?_
 refine Zs ?_
 refine Zpt ?_
 refine Zm ?_
 refine Zm ?_
 refine Zm ?_
 refine Zv (.int .i64 1) (fun _ fr => x_max rfl (fr.ev rfl) rfl (r := 1) (by decide)) ?_
 refine Zv (.int .u32 1) (fun _ fr => x_convert Try.underlying3 Try.underlying32 rfl (fr.ev rfl) rfl) ?_
 refine Zv (.int .u32 (addr % 1)) (fun _ fr => x_rem rfl (fr.ev rfl) (fr.ev rfl) (by decide) (rem_nn (by omega))) ?_
 refine Zv _ (fun _ fr => x_eql rfl (fr.ev rfl) rfl rfl) ?_
 refine Zpt ?_
 refine Za ?_
 refine Znn ?_
 refine Zrt ?_
 refine Zre rfl [_] ⟨rfl, trivial⟩ ?_
 exact ⟨_, rfl, rfl, rfl⟩
set_option maxRecDepth 100000 in
set_option maxHeartbeats 4000000 in
theorem rcright_2 (addr : Int) (ha : 0 ≤ addr ∧ addr < 4294967296) (w : World) : Calls Try.prog 57 #[.int .u32 addr, .int .i64 2] w (Ret fun v w' => v = .bool (decide (addr % 2 = 0)) ∧ w' = w) := by
 refine Zen 23 Try.func57 ?_
 refine Zsr ?_
 refine Za ?_
 refine Znn ?_
 refine Zsr ?_
 refine Zm ?_
 refine Zv (.bool false) (fun _ fr => x_eql rfl (fr.ev rfl) rfl rfl) ?_
 refine Zm ?_
 refine Zm ?_
 refine Zv (.bool true) (fun _ fr => x_eql rfl (fr.ev rfl) rfl rfl) ?_
 refine Zpf ?_
 refine Zm ?_
 refine Zs ?_
 refine Zs ?_
 refine Zpt ?_
 refine Zm ?_
 refine Zm ?_
 refine Zm ?_
 refine Zv (.int .i64 2) (fun _ fr => x_max rfl (fr.ev rfl) rfl (r := 2) (by decide)) ?_
 refine Zv (.int .u32 2) (fun _ fr => x_convert Try.underlying3 Try.underlying32 rfl (fr.ev rfl) rfl) ?_
 refine Zv (.int .u32 (addr % 2)) (fun _ fr => x_rem rfl (fr.ev rfl) (fr.ev rfl) (by decide) (rem_nn (by omega))) ?_
 refine Zv _ (fun _ fr => x_eql rfl (fr.ev rfl) rfl rfl) ?_
 refine Zpt ?_
 refine Za ?_
 refine Znn ?_
 refine Zrt ?_
 refine Zre rfl [_] ⟨rfl, trivial⟩ ?_
 exact ⟨_, rfl, rfl, rfl⟩
set_option maxRecDepth 100000 in
set_option maxHeartbeats 4000000 in
theorem rcright_4 (addr : Int) (ha : 0 ≤ addr ∧ addr < 4294967296) (w : World) : Calls Try.prog 57 #[.int .u32 addr, .int .i64 4] w (Ret fun v w' => v = .bool (decide (addr % 4 = 0)) ∧ w' = w) := by
 refine Zen 23 Try.func57 ?_
 refine Zsr ?_
 refine Za ?_
 refine Znn ?_
 refine Zsr ?_
 refine Zm ?_
 refine Zv (.bool false) (fun _ fr => x_eql rfl (fr.ev rfl) rfl rfl) ?_
 refine Zm ?_
 refine Zm ?_
 refine Zv (.bool false) (fun _ fr => x_eql rfl (fr.ev rfl) rfl rfl) ?_
 refine Zpf ?_
 refine Zm ?_
 refine Zm ?_
 refine Zv (.bool true) (fun _ fr => x_eql rfl (fr.ev rfl) rfl rfl) ?_
 refine Zpf ?_
 refine Zm ?_
 refine Zm ?_
 refine Zm ?_
 refine Zv (.int .i64 4) (fun _ fr => x_max rfl (fr.ev rfl) rfl (r := 4) (by decide)) ?_
 refine Zv (.int .u32 4) (fun _ fr => x_convert Try.underlying3 Try.underlying32 rfl (fr.ev rfl) rfl) ?_
 refine Zv (.int .u32 (addr % 4)) (fun _ fr => x_rem rfl (fr.ev rfl) (fr.ev rfl) (by decide) (rem_nn (by omega))) ?_
 refine Zv _ (fun _ fr => x_eql rfl (fr.ev rfl) rfl rfl) ?_
 refine Zpt ?_
 refine Za ?_
 refine Znn ?_
 refine Zrt ?_
 refine Zre rfl [_] ⟨rfl, trivial⟩ ?_
 exact ⟨_, rfl, rfl, rfl⟩
theorem rcright_c (addr width : Int) (ha : 0 ≤ addr ∧ addr < 4294967296) (w : World) : Calls Try.prog 57 #[.int .u32 addr, .int .i64 width] w (Ret fun v w' => v = .bool (rightA addr width) ∧ w' = w) := by
  by_cases h1 : width = 1
  · subst h1
    refine (rcright_1 addr ha w).mono ?_
    rintro e w' ⟨v, rfl, rfl, rfl⟩
    exact ⟨_, rfl, by simp [rightA], rfl⟩
  by_cases h2 : width = 2
  · subst h2
    refine (rcright_2 addr ha w).mono ?_
    rintro e w' ⟨v, rfl, rfl, rfl⟩
    exact ⟨_, rfl, by simp [rightA], rfl⟩
  by_cases h4 : width = 4
  · subst h4
    refine (rcright_4 addr ha w).mono ?_
    rintro e w' ⟨v, rfl, rfl, rfl⟩
    exact ⟨_, rfl, by simp [rightA], rfl⟩
  refine (rcright_no addr ha width h1 h2 h4 w).mono ?_
  rintro e w' ⟨v, rfl, rfl, rfl⟩
  exact ⟨_, rfl, by simp [rightA, h1, h2, h4], rfl⟩
def zv4 : Value := .agg (#[.int .i64 0, .int .i64 0, .int .i64 0, .slice none 0 0, .bool false, .int .u32 0, .bool false, .bool false, .int .u32 0, .int .i64 0, .int .u8 0, .int .u8 0, .int .u8 0, .int .u8 0, .int .u8 0, .int .u8 0, .int .u8 0, .int .u8 0, .int .u8 0, .int .u8 0, .int .u8 0, .int .u8 0, .int .u8 0, .int .u8 0, .int .u8 0, .int .u8 0])
set_option maxRecDepth 100000 in
set_option maxHeartbeats 4000000 in
theorem rcwith_c (x : Ln) {w : World} {id : Int} {n : Nat} {ways : Int} {A : Option Addr} {cap : Nat} {L : List Ln} {ak : Bool} {al : Int} {aw gv : Bool} {gx : Ln} (hV : View lnE w A cap L) (hn : 0 < n ∧ n ≤ 64) (hl : L.length ≤ 10000)  : Calls Try.prog 59 #[.agg (rcE.arr (RC.mk id ((n : Nat) : Int) ways A L.length cap (ak) al (aw) (gv) gx)), .agg (lnE.arr x)] w (Ret fun v w' => ∃ A' cap', v = .agg (rcE.arr (RC.mk id n ways A' (withF n L x).length cap' ak al aw gv gx)) ∧ View lnE w' A' cap' (withF n L x) ∧ (∀ g, inA A' g → w.heap.size ≤ g) ∧ New w w') := by
 have hVl := hV.len
 unfold maxLen at hVl
 have hxn := x.hn
 have hF := Only.refl (fun _ => False) w
 refine Zen 71 Try.func59 ?_
 refine Zsr ?_
 refine Znb (cs := rcE.arr (RC.mk id ((n : Nat) : Int) ways A L.length cap (ak) al (aw) (gv) gx)) fun b1 w2 hN3 B4 hb5 => ?_
 have g_b1 := Nat.le_trans hF.size hb5
 refine Znb (cs := lnE.arr x) fun b6 w7 hN8 B9 hb10 => ?_
 refine Zna (z := zv4) (cs := rcE.arr rc0) (by kernel_rfl) fun b11 w12 hN13 B14 hb15 => ?_
 replace B4 := B4.new hN8
 have ne_b1_b11 : NE b1 b11 := NE.mk (Nat.lt_of_lt_of_le B4.lt hb15)
 replace hF := (hF.trNew hN3).trNew hN8
 have g_b11 := Nat.le_trans hF.size hb15
 refine Znn ?_
 refine Zsr ?_
 refine Za ?_
 refine Znn ?_
 refine Zsr ?_
 refine Za ?_
 refine Znn ?_
 refine Zsr ?_
 replace B4 := B4.new hN13
 refine ZE rcE ag42 (B4.rangeE rcE) ?_
 refine Zf fo39_0 ?_
 replace B9 := B9.new hN13
 refine Zd (v := .int .u32 x.num) pl32 (B9.cell 0 rfl) ?_
 replace hV := ((hV.new hN3).new hN8).new hN13
 refine Zk cf58 (rcfind_c x.num (hV)) ?_
 rintro v w16 ⟨rfl, hN17⟩
 refine Zv _ (fun _ fr => x_geq rfl (fr.ev rfl) rfl rfl) ?_
 refine Za ?_
 refine Znn ?_
 refine Zsq ?_
 refine Zsq ?_
 intro a fr
 generalize hth : decide (0 ≤ fndI L x.num) = th at fr
 revert a
 refine Zrg ?_
 refine Za ?_
 refine Znn ?_
 refine Zbl ?_
 intro a fr
 replace hF := (hF.trNew hN13).trNew hN17
 replace hV := hV.new hN17
 replace B4 := B4.new hN17
 replace B9 := B9.new hN17
 replace B14 := B14.new hN17
 refine fx_loop (fun nM a wL => ∃ k : Nat, ∃ Sx : Option Addr, ∃ sc : Nat, ∃ os : List Ln, ∃ pt : Bool, nM = L.length - k ∧ Fr (71, []) [(2, .pointer (some ⟨b1, 0, none⟩)), (3, .pointer (some ⟨b6, 0, none⟩)), (4, .pointer (some ⟨b11, 0, none⟩)), (7, .bool (th)), (5, .slice Sx os.length sc), (6, .bool (pt)), (8, .int .i64 ((k : Nat) : Int))] a ∧ Only (fun _ => False) w wL ∧ View lnE wL A cap L ∧ Blk wL b1 42 (rcE.arr (RC.mk id ((n : Nat) : Int) ways A L.length cap (ak) al (aw) (gv) gx)) ∧ Blk wL b6 39 (lnE.arr x) ∧ Blk wL b11 42 (rcE.arr rc0) ∧ Own lnE wL Sx sc os ∧ k ≤ L.length ∧ os ++ wl n x th (L.drop k) pt = wl n x th L false ∧ os.length ≤ 2 * k ∧ (Apart2 A Sx) ∧ (Apart Sx b1) ∧ (Apart Sx b6) ∧ (Apart Sx b11) ∧ (∀ g, inA Sx g → (fun _ => False) g ∨ w.heap.size ≤ g)) (n0 := _) ⟨0, none, 0, [], false, rfl, fr.sub ⟨rfl, rfl, rfl, rfl, rfl, rfl, rfl, trivial⟩, hF, hV, B4, B9, B14, Own.nil, by omega, rfl, Nat.le_refl _, (fun k _ h => apart_none k h), (apart_none b1), (apart_none b6), (apart_none b11), gA_none⟩ ?_
 clear fr a
 rintro n19 a w18 ⟨k, Sx, sc, os, pt, rfl, fr, hF, hV, B4, B9, B14, Oo, hk, hos, hok, ap2_A_Sx, ap_Sx_b1, ap_Sx_b6, ap_Sx_b11, gA_Sx⟩
 revert a
 have hdk := drop_at (M := L) (k := k)
 have hxk := (L.getD k ln0).hn
 have hxn := x.hn
 refine Zsq ?_
 refine Zsr ?_
 refine Zm ?_
 refine Zf fo42_3 ?_
 refine Zd (v := .slice A L.length cap) pl40 (B4.cell 3 rfl) ?_
 refine Zv _ (fun _ fr => x_len Try.underlying40 rfl (fr.ev rfl)) ?_
 refine Zv _ (fun _ fr => x_lss rfl (fr.ev rfl) (fr.ev rfl) rfl) ?_
 refine Znn ?_
 refine Zcd (fun hc20 => ?_) (fun hc20 => ?_)
 ·have hc20 := of_decide_eq_true hc20
  refine Zsk ?_
  refine Znx ?_
  refine Zsq ?_
  refine Zbl ?_
  refine Zsq ?_
  replace hdk := hdk (by omega)
  refine Zrg ?_
  refine Zf fo42_3 ?_
  refine Zd (v := .slice A L.length cap) pl40 (B4.cell 3 rfl) ?_
  refine Zm ?_
  obtain ⟨g21, o22, hA23⟩ := (hV).some_ (by omega)
  refine Zv (.pointer (some ⟨g21, o22 + k * 18, none⟩)) (fun _ fr => x_indexV Try.underlying40 sz39 rfl (fr.ev rfl) hA23 (fr.ev rfl) (by omega) rfl) ?_
  refine ZE lnE ag39 ((hV).elem hA23 k ln0 (by omega)) ?_
  refine Zna (z := zv1) (cs := lnE.arr ln0) (by kernel_rfl) fun b24 w25 hN26 B27 hb28 => ?_
  have ap_A_b24 : Apart A b24 := hV.apart hb28
  have ne_b1_b24 : NE b1 b24 := NE.mk (Nat.lt_of_lt_of_le B4.lt hb28)
  have ne_b6_b24 : NE b6 b24 := NE.mk (Nat.lt_of_lt_of_le B9.lt hb28)
  have ne_b11_b24 : NE b11 b24 := NE.mk (Nat.lt_of_lt_of_le B14.lt hb28)
  have ap_Sx_b24 : Apart Sx b24 := Oo.apart hb28
  have g_b24 := Nat.le_trans hF.size hb28
  refine ZsS sz39 (lnE.all _) B27 (lnE.size _) (lnE.size _) fun w29 hO30 hBq => ?_
  replace B27 := hBq
  clear hBq
  refine Znn ?_
  refine Zsq ?_
  refine Zsr ?_
  refine Zf fo39_0 ?_
  refine Zd (v := .int .u32 ((L.getD k ln0).num)) pl32 (B27.cell 0 rfl) ?_
  refine Zf fo39_0 ?_
  replace B9 := (B9.new hN26).only hO30 ne_b6_b24
  refine Zd (v := .int .u32 x.num) pl32 (B9.cell 0 rfl) ?_
  refine Zv _ (fun _ fr => x_eql rfl (fr.ev rfl) (fr.ev rfl) rfl) ?_
  refine Znn ?_
  refine Zcd (fun hc31 => ?_) (fun hc31 => ?_)
  ·have hc31 := of_decide_eq_true hc31
   refine Zrg ?_
   refine ZE lnE ag39 (B9.rangeE lnE) ?_
   refine ZsS sz39 (lnE.all _) B27 (lnE.size _) (lnE.size _) fun w32 hO33 hBq => ?_
   replace B27 := hBq
   clear hBq
   refine Znn ?_
   refine Zsq ?_
   refine Zsq ?_
   refine Zhd (n := 17) (fun w => Blk w b1 42 (rcE.arr (RC.mk id ((n : Nat) : Int) ways A L.length cap (ak) al (aw) (gv) gx)) ∧ Blk w b6 39 (lnE.arr x) ∧ Blk w b24 39 (lnE.arr x) ∧ True) ?_
   intro w34 hN35
   replace B4 := (((B4.new hN26).only hO30 ne_b1_b24).only hO33 ne_b1_b24).new hN35
   replace B9 := (B9.only hO33 ne_b6_b24).new hN35
   replace B27 := B27.new hN35
   have hS9 := And.intro B4 (And.intro B9 (And.intro B27 trivial))
   refine Zhm 0 hS9 ?_
   refine Zht 1 rfl (.bool (!(th))) hS9 (fun _ fr _ _ => x_not rfl (fr.ev rfl) rfl) ?_
   refine Zhm 2 hS9 ?_
   refine Zhy 3 rfl (!(th)) (.bool (pt)) hS9 (fun _ fr _ _ _ => x_move rfl (fr.ev rfl)) ?_
   refine Zhy 4 rfl (!(th)) (.bool (!(pt))) hS9 (fun _ fr hg _ _ => x_not rfl ((fr.ev rfl).trans (onlyIf_t hg)) rfl) ?_
   refine Zht 5 rfl (.bool ((!(th)) && (!(pt)))) hS9 (fun _ fr _ _ => x_pick_and rfl (fr.ev rfl) (fun hb => ((fr.ev rfl)).trans (onlyIf_t (by simp_all))) (fun _ => rfl) rfl) ?_
   refine Zhm 6 hS9 ?_
   refine Zhy 7 rfl ((!(th)) && (!(pt))) (.agg (rcE.arr (RC.mk id ((n : Nat) : Int) ways A L.length cap (ak) al (aw) (gv) gx))) hS9 (fun _ fr _ _ ⟨B4, _⟩ => x_loadE (E := rcE) ag42 rfl rfl (fr.ev rfl) (B4.rangeE rcE)) ?_
   refine Zhy 8 rfl ((!(th)) && (!(pt))) (.pointer (some ⟨b24, 0, none⟩)) hS9 (fun _ fr _ _ _ => x_fieldAddr fo39_0 rfl (fr.ev rfl) rfl) ?_
   refine Zhy 9 rfl ((!(th)) && (!(pt))) (.int .u32 x.num) hS9 (fun _ fr hg _ ⟨_, _, B27, _⟩ => x_load1 pl32 rfl ((fr.ev rfl).trans (onlyIf_t hg)) (B27.cell 0 rfl)) ?_
   refine Zhy 11 rfl ((!(th)) && (!(pt))) (.agg (rcE.arr (RC.mk id ((n : Nat) : Int) ways A L.length cap (ak) al (aw) (gv) gx))) hS9 (fun _ fr _ _ ⟨B4, _⟩ => x_loadE (E := rcE) ag42 rfl rfl (fr.ev rfl) (B4.rangeE rcE)) ?_
   refine Zhy 12 rfl ((!(th)) && (!(pt))) (.pointer (some ⟨b6, 0, none⟩)) hS9 (fun _ fr _ _ _ => x_fieldAddr fo39_0 rfl (fr.ev rfl) rfl) ?_
   refine Zhy 13 rfl ((!(th)) && (!(pt))) (.int .u32 x.num) hS9 (fun _ fr hg _ ⟨_, B9, _⟩ => x_load1 pl32 rfl ((fr.ev rfl).trans (onlyIf_t hg)) (B9.cell 0 rfl)) ?_
   refine Zh1 10 ?_
   rcases Bool.eq_false_or_eq_true ((!(th)) && (!(pt))) with hc36 | hc36
   ·intro a fr
    rw [hc36] at fr
    revert a
    have hc36s := hc36
    try simp at hc36s
    refine Zkx (fun _ fr => x_call (vs := [.agg (rcE.arr (RC.mk id ((n : Nat) : Int) ways A L.length cap (ak) al (aw) (gv) gx)), .int .u32 x.num]) rfl rfl ⟨((fr.ev rfl).trans (onlyIf_t rfl)), ((fr.ev rfl).trans (onlyIf_t rfl)), trivial⟩ Try.func61 nm61 rfl) (rcset_c x.num (by omega) (by omega) _) ?_
    rintro v w37 ⟨rfl, hN38⟩
    replace B4 := B4.new hN38
    replace B9 := B9.new hN38
    replace B27 := B27.new hN38
    refine Zhb ⟨B4, B9, B27, trivial⟩ ?_
    refine Zh1 14 ?_
    refine Zkx (fun _ fr => x_call (vs := [.agg (rcE.arr (RC.mk id ((n : Nat) : Int) ways A L.length cap (ak) al (aw) (gv) gx)), .int .u32 x.num]) rfl rfl ⟨((fr.ev rfl).trans (onlyIf_t rfl)), ((fr.ev rfl).trans (onlyIf_t rfl)), trivial⟩ Try.func61 nm61 rfl) (rcset_c x.num (by omega) (by omega) _) ?_
    rintro v w39 ⟨rfl, hN40⟩
    replace B4 := B4.new hN40
    replace B9 := B9.new hN40
    replace B27 := B27.new hN40
    refine Zhb ⟨B4, B9, B27, trivial⟩ ?_
    have hS9 := And.intro B4 (And.intro B9 (And.intro B27 trivial))
    refine Zht 15 rfl (.bool false) hS9 (fun _ fr _ _ => x_gtr rfl (fr.ev rfl) (fr.ev rfl) (by simp)) ?_
    refine Zht 16 rfl (.bool false) hS9 (fun _ fr _ _ => x_pick_t rfl (fr.ev rfl) (fr.ev rfl)) ?_
    refine Zhn ?_
    refine Znx ?_
    refine Zcf ?_
    refine Zsk ?_
    refine Znx ?_
    refine Zrg ?_
    refine Zm ?_
    refine ZE lnE ag39 (B27.rangeE lnE) ?_
    intro a fr
    refine fx_build1 (E := lnE) (p := x) elLn (by decide) fr rfl rfl (by decide) rfl (fr.ev rfl) ?_
    clear fr a
    intro A41 w42 hN43 O44 hA45
    intro a fr
    replace Oo := ((((((Oo.new hN26).only hO30 (Apart.ne1 ap_Sx_b24)).only hO33 (Apart.ne1 ap_Sx_b24)).new hN35).new hN38).new hN40).new hN43
    refine fx_append (E := lnE) (l := os) (l' := [x]) elLn fr rfl rfl (by decide) rfl (fr.ev rfl) (fr.ev rfl) (by first | rfl | (simp; done) | (simp; omega)) (by first | rfl | (simp; done) | (simp; omega)) Oo O44.view (by first | omega | (simp only [List.length_append, List.length_cons, List.length_nil, List.nil_append]; omega) | (simp; omega)) (by first | (unfold maxLen; done) | (unfold maxLen; first | omega | (simp; done) | (simp; omega))) ?_
    clear fr a
    intro A46 cap47 w48 O49 hO50 mv51
    replace hV := ((((((hV.new hN26).only hO30 (Apart.ne1 ap_A_b24)).only hO33 (Apart.ne1 ap_A_b24)).new hN35).new hN38).new hN40).new hN43
    have ap2_A46_A : Apart2 A46 A := moved_apart2 mv51 ap2_A_Sx.symm fun _ hg => hV.lt hg
    replace B4 := B4.new hN43
    have ap_A46_b1 : Apart A46 b1 := moved_apart mv51 ap_Sx_b1 B4.lt
    replace B9 := B9.new hN43
    have ap_A46_b6 : Apart A46 b6 := moved_apart mv51 ap_Sx_b6 B9.lt
    replace B14 := ((((((B14.new hN26).only hO30 ne_b11_b24).only hO33 ne_b11_b24).new hN35).new hN38).new hN40).new hN43
    have ap_A46_b11 : Apart A46 b11 := moved_apart mv51 ap_Sx_b11 B14.lt
    replace hF := ((((((hF.trNew hN26).loc hO30 (.inr g_b24)).loc hO33 (.inr g_b24)).trNew hN35).trNew hN38).trNew hN40).trNew hN43
    have gA_A46 := gA_moved hF mv51 gA_Sx
    clear Oo
    refine Za ?_
    refine Znl ?_
    refine Zb ?_
    refine Znx ?_
    refine Zrg ?_
    refine Zm ?_
    refine Zv _ (fun _ fr => x_add rfl (fr.ev rfl) rfl (i64w (r := ((k + 1 : Nat) : Int)) (by omega) (by omega))) ?_
    refine Za ?_
    intro a fr
    refine wpList_nil ?_
    refine fx_next ?_
    have hstep : os ++ wl n x th (L.drop k) pt = os ++ ([x]) ++ wl n x th (L.drop (k + 1)) (pt) := by rw [hdk]; simp only [wl, hc20, if_pos hc31, hc36, decide_eq_false (show ¬ si n x.num < si n (L.getD k ln0).num by rw [hc31]; exact Nat.lt_irrefl _), Bool.true_and, Bool.and_true, Bool.false_and, Bool.and_false, Bool.or_true, Bool.or_false, Bool.false_eq_true, if_true, if_false, List.nil_append, List.append_assoc, List.cons_append]
    replace hV := hV.only hO50 (fun g h1 h2 => ap2_A_Sx g h1 h2)
    replace B4 := B4.only hO50 ap_Sx_b1
    replace B9 := B9.only hO50 ap_Sx_b6
    replace B14 := B14.only hO50 ap_Sx_b11
    replace hF := hF.locA hO50 gA_Sx
    exact ⟨_, by omega, (k + 1), A46, cap47, (os ++ ([x])), (pt), rfl, fr.sub ⟨rfl, rfl, rfl, rfl, rfl, rfl, rfl, trivial⟩, hF, hV, B4, B9, B14, O49, by omega, (by rw [← hstep]; exact hos), (by simp; omega), ap2_A46_A.symm, ap_A46_b1, ap_A46_b6, ap_A46_b11, gA_A46⟩
   ·intro a fr
    rw [hc36] at fr
    revert a
    have hc36s := hc36
    try simp at hc36s
    refine Zs ?_
    refine Zhb ⟨B4, B9, B27, trivial⟩ ?_
    have hS9 := And.intro B4 (And.intro B9 (And.intro B27 trivial))
    refine Zhs 14 hS9 ?_
    refine Zhs 15 hS9 ?_
    refine Zht 16 rfl (.bool false) hS9 (fun _ fr _ _ => x_pick_f rfl (fr.ev rfl) rfl) ?_
    refine Zhn ?_
    refine Znx ?_
    refine Zcf ?_
    refine Zsk ?_
    refine Znx ?_
    refine Zrg ?_
    refine Zm ?_
    refine ZE lnE ag39 (B27.rangeE lnE) ?_
    intro a fr
    refine fx_build1 (E := lnE) (p := x) elLn (by decide) fr rfl rfl (by decide) rfl (fr.ev rfl) ?_
    clear fr a
    intro A52 w53 hN54 O55 hA56
    intro a fr
    replace Oo := ((((Oo.new hN26).only hO30 (Apart.ne1 ap_Sx_b24)).only hO33 (Apart.ne1 ap_Sx_b24)).new hN35).new hN54
    refine fx_append (E := lnE) (l := os) (l' := [x]) elLn fr rfl rfl (by decide) rfl (fr.ev rfl) (fr.ev rfl) (by first | rfl | (simp; done) | (simp; omega)) (by first | rfl | (simp; done) | (simp; omega)) Oo O55.view (by first | omega | (simp only [List.length_append, List.length_cons, List.length_nil, List.nil_append]; omega) | (simp; omega)) (by first | (unfold maxLen; done) | (unfold maxLen; first | omega | (simp; done) | (simp; omega))) ?_
    clear fr a
    intro A57 cap58 w59 O60 hO61 mv62
    replace hV := ((((hV.new hN26).only hO30 (Apart.ne1 ap_A_b24)).only hO33 (Apart.ne1 ap_A_b24)).new hN35).new hN54
    have ap2_A57_A : Apart2 A57 A := moved_apart2 mv62 ap2_A_Sx.symm fun _ hg => hV.lt hg
    replace B4 := B4.new hN54
    have ap_A57_b1 : Apart A57 b1 := moved_apart mv62 ap_Sx_b1 B4.lt
    replace B9 := B9.new hN54
    have ap_A57_b6 : Apart A57 b6 := moved_apart mv62 ap_Sx_b6 B9.lt
    replace B14 := ((((B14.new hN26).only hO30 ne_b11_b24).only hO33 ne_b11_b24).new hN35).new hN54
    have ap_A57_b11 : Apart A57 b11 := moved_apart mv62 ap_Sx_b11 B14.lt
    replace hF := ((((hF.trNew hN26).loc hO30 (.inr g_b24)).loc hO33 (.inr g_b24)).trNew hN35).trNew hN54
    have gA_A57 := gA_moved hF mv62 gA_Sx
    clear Oo
    refine Za ?_
    refine Znl ?_
    refine Zb ?_
    refine Znx ?_
    refine Zrg ?_
    refine Zm ?_
    refine Zv _ (fun _ fr => x_add rfl (fr.ev rfl) rfl (i64w (r := ((k + 1 : Nat) : Int)) (by omega) (by omega))) ?_
    refine Za ?_
    intro a fr
    refine wpList_nil ?_
    refine fx_next ?_
    have hstep : os ++ wl n x th (L.drop k) pt = os ++ ([x]) ++ wl n x th (L.drop (k + 1)) (pt) := by rw [hdk]; simp only [wl, hc20, if_pos hc31, hc36, decide_eq_false (show ¬ si n x.num < si n (L.getD k ln0).num by rw [hc31]; exact Nat.lt_irrefl _), Bool.true_and, Bool.and_true, Bool.false_and, Bool.and_false, Bool.or_true, Bool.or_false, Bool.false_eq_true, if_true, if_false, List.nil_append, List.append_assoc, List.cons_append]
    replace hV := hV.only hO61 (fun g h1 h2 => ap2_A_Sx g h1 h2)
    replace B4 := B4.only hO61 ap_Sx_b1
    replace B9 := B9.only hO61 ap_Sx_b6
    replace B14 := B14.only hO61 ap_Sx_b11
    replace hF := hF.locA hO61 gA_Sx
    exact ⟨_, by omega, (k + 1), A57, cap58, (os ++ ([x])), (pt), rfl, fr.sub ⟨rfl, rfl, rfl, rfl, rfl, rfl, rfl, trivial⟩, hF, hV, B4, B9, B14, O60, by omega, (by rw [← hstep]; exact hos), (by simp; omega), ap2_A57_A.symm, ap_A57_b1, ap_A57_b6, ap_A57_b11, gA_A57⟩
  ·have hc31 := of_decide_eq_false hc31
   refine Zsk ?_
   refine Znx ?_
   refine Zsq ?_
   refine Zsq ?_
   refine Zhd (n := 17) (fun w => Blk w b1 42 (rcE.arr (RC.mk id ((n : Nat) : Int) ways A L.length cap (ak) al (aw) (gv) gx)) ∧ Blk w b6 39 (lnE.arr x) ∧ Blk w b24 39 (lnE.arr (L.getD k ln0)) ∧ True) ?_
   intro w63 hN64
   replace B4 := ((B4.new hN26).only hO30 ne_b1_b24).new hN64
   replace B9 := B9.new hN64
   replace B27 := B27.new hN64
   have hS9 := And.intro B4 (And.intro B9 (And.intro B27 trivial))
   refine Zhm 0 hS9 ?_
   refine Zht 1 rfl (.bool (!(th))) hS9 (fun _ fr _ _ => x_not rfl (fr.ev rfl) rfl) ?_
   refine Zhm 2 hS9 ?_
   refine Zhy 3 rfl (!(th)) (.bool (pt)) hS9 (fun _ fr _ _ _ => x_move rfl (fr.ev rfl)) ?_
   refine Zhy 4 rfl (!(th)) (.bool (!(pt))) hS9 (fun _ fr hg _ _ => x_not rfl ((fr.ev rfl).trans (onlyIf_t hg)) rfl) ?_
   refine Zht 5 rfl (.bool ((!(th)) && (!(pt)))) hS9 (fun _ fr _ _ => x_pick_and rfl (fr.ev rfl) (fun hb => ((fr.ev rfl)).trans (onlyIf_t (by simp_all))) (fun _ => rfl) rfl) ?_
   refine Zhm 6 hS9 ?_
   refine Zhy 7 rfl ((!(th)) && (!(pt))) (.agg (rcE.arr (RC.mk id ((n : Nat) : Int) ways A L.length cap (ak) al (aw) (gv) gx))) hS9 (fun _ fr _ _ ⟨B4, _⟩ => x_loadE (E := rcE) ag42 rfl rfl (fr.ev rfl) (B4.rangeE rcE)) ?_
   refine Zhy 8 rfl ((!(th)) && (!(pt))) (.pointer (some ⟨b24, 0, none⟩)) hS9 (fun _ fr _ _ _ => x_fieldAddr fo39_0 rfl (fr.ev rfl) rfl) ?_
   refine Zhy 9 rfl ((!(th)) && (!(pt))) (.int .u32 ((L.getD k ln0).num)) hS9 (fun _ fr hg _ ⟨_, _, B27, _⟩ => x_load1 pl32 rfl ((fr.ev rfl).trans (onlyIf_t hg)) (B27.cell 0 rfl)) ?_
   refine Zhy 11 rfl ((!(th)) && (!(pt))) (.agg (rcE.arr (RC.mk id ((n : Nat) : Int) ways A L.length cap (ak) al (aw) (gv) gx))) hS9 (fun _ fr _ _ ⟨B4, _⟩ => x_loadE (E := rcE) ag42 rfl rfl (fr.ev rfl) (B4.rangeE rcE)) ?_
   refine Zhy 12 rfl ((!(th)) && (!(pt))) (.pointer (some ⟨b6, 0, none⟩)) hS9 (fun _ fr _ _ _ => x_fieldAddr fo39_0 rfl (fr.ev rfl) rfl) ?_
   refine Zhy 13 rfl ((!(th)) && (!(pt))) (.int .u32 x.num) hS9 (fun _ fr hg _ ⟨_, B9, _⟩ => x_load1 pl32 rfl ((fr.ev rfl).trans (onlyIf_t hg)) (B9.cell 0 rfl)) ?_
   refine Zh1 10 ?_
   rcases Bool.eq_false_or_eq_true ((!(th)) && (!(pt))) with hc65 | hc65
   ·intro a fr
    rw [hc65] at fr
    revert a
    have hc65s := hc65
    try simp at hc65s
    refine Zkx (fun _ fr => x_call (vs := [.agg (rcE.arr (RC.mk id ((n : Nat) : Int) ways A L.length cap (ak) al (aw) (gv) gx)), .int .u32 ((L.getD k ln0).num)]) rfl rfl ⟨((fr.ev rfl).trans (onlyIf_t rfl)), ((fr.ev rfl).trans (onlyIf_t rfl)), trivial⟩ Try.func61 nm61 rfl) (rcset_c ((L.getD k ln0).num) (by omega) (by omega) _) ?_
    rintro v w66 ⟨rfl, hN67⟩
    replace B4 := B4.new hN67
    replace B9 := B9.new hN67
    replace B27 := B27.new hN67
    refine Zhb ⟨B4, B9, B27, trivial⟩ ?_
    refine Zh1 14 ?_
    refine Zkx (fun _ fr => x_call (vs := [.agg (rcE.arr (RC.mk id ((n : Nat) : Int) ways A L.length cap (ak) al (aw) (gv) gx)), .int .u32 x.num]) rfl rfl ⟨((fr.ev rfl).trans (onlyIf_t rfl)), ((fr.ev rfl).trans (onlyIf_t rfl)), trivial⟩ Try.func61 nm61 rfl) (rcset_c x.num (by omega) (by omega) _) ?_
    rintro v w68 ⟨rfl, hN69⟩
    replace B4 := B4.new hN69
    replace B9 := B9.new hN69
    replace B27 := B27.new hN69
    refine Zhb ⟨B4, B9, B27, trivial⟩ ?_
    have hS9 := And.intro B4 (And.intro B9 (And.intro B27 trivial))
    refine Zht 15 rfl _ hS9 (fun _ fr _ _ => x_gtr rfl (fr.ev rfl) (fr.ev rfl) rfl) ?_
    refine Zht 16 rfl _ hS9 (fun _ fr _ _ => x_pick_t rfl (fr.ev rfl) (fr.ev rfl)) ?_
    refine Zhn ?_
    refine Znx ?_
    refine Zcd (fun hc70 => ?_) (fun hc70 => ?_)
    ·have hc70 := of_decide_eq_true hc70
     refine Zsr ?_
     refine Zm ?_
     refine ZE lnE ag39 (B9.rangeE lnE) ?_
     intro a fr
     refine fx_build1 (E := lnE) (p := x) elLn (by decide) fr rfl rfl (by decide) rfl (fr.ev rfl) ?_
     clear fr a
     intro A71 w72 hN73 O74 hA75
     intro a fr
     replace Oo := (((((Oo.new hN26).only hO30 (Apart.ne1 ap_Sx_b24)).new hN64).new hN67).new hN69).new hN73
     refine fx_append (E := lnE) (l := os) (l' := [x]) elLn fr rfl rfl (by decide) rfl (fr.ev rfl) (fr.ev rfl) (by first | rfl | (simp; done) | (simp; omega)) (by first | rfl | (simp; done) | (simp; omega)) Oo O74.view (by first | omega | (simp only [List.length_append, List.length_cons, List.length_nil, List.nil_append]; omega) | (simp; omega)) (by first | (unfold maxLen; done) | (unfold maxLen; first | omega | (simp; done) | (simp; omega))) ?_
     clear fr a
     intro A76 cap77 w78 O79 hO80 mv81
     replace hV := (((((hV.new hN26).only hO30 (Apart.ne1 ap_A_b24)).new hN64).new hN67).new hN69).new hN73
     have ap2_A76_A : Apart2 A76 A := moved_apart2 mv81 ap2_A_Sx.symm fun _ hg => hV.lt hg
     replace B4 := B4.new hN73
     have ap_A76_b1 : Apart A76 b1 := moved_apart mv81 ap_Sx_b1 B4.lt
     replace B9 := B9.new hN73
     have ap_A76_b6 : Apart A76 b6 := moved_apart mv81 ap_Sx_b6 B9.lt
     replace B14 := (((((B14.new hN26).only hO30 ne_b11_b24).new hN64).new hN67).new hN69).new hN73
     have ap_A76_b11 : Apart A76 b11 := moved_apart mv81 ap_Sx_b11 B14.lt
     replace hF := (((((hF.trNew hN26).loc hO30 (.inr g_b24)).trNew hN64).trNew hN67).trNew hN69).trNew hN73
     have gA_A76 := gA_moved hF mv81 gA_Sx
     clear Oo
     refine Za ?_
     refine Znn ?_
     refine Zrg ?_
     refine Za ?_
     refine Znn ?_
     refine Zrg ?_
     refine Zm ?_
     replace B27 := (B27.new hN73).only hO80 ap_Sx_b24
     refine ZE lnE ag39 (B27.rangeE lnE) ?_
     intro a fr
     refine fx_build1 (E := lnE) (p := (L.getD k ln0)) elLn (by decide) fr rfl rfl (by decide) rfl (fr.ev rfl) ?_
     clear fr a
     intro A82 w83 hN84 O85 hA86
     intro a fr
     replace O79 := O79.new hN84
     refine fx_append (E := lnE) (l := os ++ ([x])) (l' := [(L.getD k ln0)]) elLn fr rfl rfl (by decide) rfl (fr.ev rfl) (fr.ev rfl) (by first | rfl | (simp; done) | (simp; omega)) (by first | rfl | (simp; done) | (simp; omega)) O79 O85.view (by first | omega | (simp only [List.length_append, List.length_cons, List.length_nil, List.nil_append]; omega) | (simp; omega)) (by first | (unfold maxLen; done) | (unfold maxLen; first | omega | (simp; done) | (simp; omega))) ?_
     clear fr a
     intro A87 cap88 w89 O90 hO91 mv92
     replace hV := (hV.only hO80 (fun g h1 h2 => ap2_A_Sx g h1 h2)).new hN84
     have ap2_A87_A : Apart2 A87 A := moved_apart2 mv92 ap2_A76_A fun _ hg => hV.lt hg
     replace B4 := (B4.only hO80 ap_Sx_b1).new hN84
     have ap_A87_b1 : Apart A87 b1 := moved_apart mv92 ap_A76_b1 B4.lt
     replace B9 := (B9.only hO80 ap_Sx_b6).new hN84
     have ap_A87_b6 : Apart A87 b6 := moved_apart mv92 ap_A76_b6 B9.lt
     replace B14 := (B14.only hO80 ap_Sx_b11).new hN84
     have ap_A87_b11 : Apart A87 b11 := moved_apart mv92 ap_A76_b11 B14.lt
     replace hF := (hF.locA hO80 gA_Sx).trNew hN84
     have gA_A87 := gA_moved hF mv92 gA_A76
     clear O79
     refine Za ?_
     refine Znl ?_
     refine Zb ?_
     refine Znx ?_
     refine Zrg ?_
     refine Zm ?_
     refine Zv _ (fun _ fr => x_add rfl (fr.ev rfl) rfl (i64w (r := ((k + 1 : Nat) : Int)) (by omega) (by omega))) ?_
     refine Za ?_
     intro a fr
     refine wpList_nil ?_
     refine fx_next ?_
     have hstep : os ++ wl n x th (L.drop k) pt = (os ++ ([x])) ++ ([(L.getD k ln0)]) ++ wl n x th (L.drop (k + 1)) true := by rw [hdk]; simp only [wl, hc20, if_neg hc31, hc65, decide_eq_true (show si n x.num < si n (L.getD k ln0).num by omega), Bool.true_and, Bool.and_true, Bool.false_and, Bool.and_false, Bool.or_true, Bool.or_false, Bool.false_eq_true, if_true, if_false, List.nil_append, List.append_assoc, List.cons_append]
     replace hV := hV.only hO91 (fun g h1 h2 => ap2_A76_A.symm g h1 h2)
     replace B4 := B4.only hO91 ap_A76_b1
     replace B9 := B9.only hO91 ap_A76_b6
     replace B14 := B14.only hO91 ap_A76_b11
     replace hF := hF.locA hO91 gA_A76
     exact ⟨_, by omega, (k + 1), A87, cap88, ((os ++ ([x])) ++ ([(L.getD k ln0)])), true, rfl, fr.sub ⟨rfl, rfl, rfl, rfl, rfl, rfl, rfl, trivial⟩, hF, hV, B4, B9, B14, O90, by omega, (by rw [← hstep]; exact hos), (by simp; omega), ap2_A87_A.symm, ap_A87_b1, ap_A87_b6, ap_A87_b11, gA_A87⟩
    ·have hc70 := of_decide_eq_false hc70
     refine Zsk ?_
     refine Znx ?_
     refine Zrg ?_
     refine Zm ?_
     refine ZE lnE ag39 (B27.rangeE lnE) ?_
     intro a fr
     refine fx_build1 (E := lnE) (p := (L.getD k ln0)) elLn (by decide) fr rfl rfl (by decide) rfl (fr.ev rfl) ?_
     clear fr a
     intro A93 w94 hN95 O96 hA97
     intro a fr
     replace Oo := (((((Oo.new hN26).only hO30 (Apart.ne1 ap_Sx_b24)).new hN64).new hN67).new hN69).new hN95
     refine fx_append (E := lnE) (l := os) (l' := [(L.getD k ln0)]) elLn fr rfl rfl (by decide) rfl (fr.ev rfl) (fr.ev rfl) (by first | rfl | (simp; done) | (simp; omega)) (by first | rfl | (simp; done) | (simp; omega)) Oo O96.view (by first | omega | (simp only [List.length_append, List.length_cons, List.length_nil, List.nil_append]; omega) | (simp; omega)) (by first | (unfold maxLen; done) | (unfold maxLen; first | omega | (simp; done) | (simp; omega))) ?_
     clear fr a
     intro A98 cap99 w100 O101 hO102 mv103
     replace hV := (((((hV.new hN26).only hO30 (Apart.ne1 ap_A_b24)).new hN64).new hN67).new hN69).new hN95
     have ap2_A98_A : Apart2 A98 A := moved_apart2 mv103 ap2_A_Sx.symm fun _ hg => hV.lt hg
     replace B4 := B4.new hN95
     have ap_A98_b1 : Apart A98 b1 := moved_apart mv103 ap_Sx_b1 B4.lt
     replace B9 := B9.new hN95
     have ap_A98_b6 : Apart A98 b6 := moved_apart mv103 ap_Sx_b6 B9.lt
     replace B14 := (((((B14.new hN26).only hO30 ne_b11_b24).new hN64).new hN67).new hN69).new hN95
     have ap_A98_b11 : Apart A98 b11 := moved_apart mv103 ap_Sx_b11 B14.lt
     replace hF := (((((hF.trNew hN26).loc hO30 (.inr g_b24)).trNew hN64).trNew hN67).trNew hN69).trNew hN95
     have gA_A98 := gA_moved hF mv103 gA_Sx
     clear Oo
     refine Za ?_
     refine Znl ?_
     refine Zb ?_
     refine Znx ?_
     refine Zrg ?_
     refine Zm ?_
     refine Zv _ (fun _ fr => x_add rfl (fr.ev rfl) rfl (i64w (r := ((k + 1 : Nat) : Int)) (by omega) (by omega))) ?_
     refine Za ?_
     intro a fr
     refine wpList_nil ?_
     refine fx_next ?_
     have hstep : os ++ wl n x th (L.drop k) pt = os ++ ([(L.getD k ln0)]) ++ wl n x th (L.drop (k + 1)) (pt) := by rw [hdk]; simp only [wl, hc20, if_neg hc31, hc65, decide_eq_false (show ¬ si n x.num < si n (L.getD k ln0).num by omega), Bool.true_and, Bool.and_true, Bool.false_and, Bool.and_false, Bool.or_true, Bool.or_false, Bool.false_eq_true, if_true, if_false, List.nil_append, List.append_assoc, List.cons_append]
     replace hV := hV.only hO102 (fun g h1 h2 => ap2_A_Sx g h1 h2)
     replace B4 := B4.only hO102 ap_Sx_b1
     replace B9 := B9.only hO102 ap_Sx_b6
     replace B14 := B14.only hO102 ap_Sx_b11
     replace hF := hF.locA hO102 gA_Sx
     exact ⟨_, by omega, (k + 1), A98, cap99, (os ++ ([(L.getD k ln0)])), (pt), rfl, fr.sub ⟨rfl, rfl, rfl, rfl, rfl, rfl, rfl, trivial⟩, hF, hV, B4, B9, B14, O101, by omega, (by rw [← hstep]; exact hos), (by simp; omega), ap2_A98_A.symm, ap_A98_b1, ap_A98_b6, ap_A98_b11, gA_A98⟩
   ·intro a fr
    rw [hc65] at fr
    revert a
    have hc65s := hc65
    try simp at hc65s
    refine Zs ?_
    refine Zhb ⟨B4, B9, B27, trivial⟩ ?_
    have hS9 := And.intro B4 (And.intro B9 (And.intro B27 trivial))
    refine Zhs 14 hS9 ?_
    refine Zhs 15 hS9 ?_
    refine Zht 16 rfl (.bool false) hS9 (fun _ fr _ _ => x_pick_f rfl (fr.ev rfl) rfl) ?_
    refine Zhn ?_
    refine Znx ?_
    refine Zcf ?_
    refine Zsk ?_
    refine Znx ?_
    refine Zrg ?_
    refine Zm ?_
    refine ZE lnE ag39 (B27.rangeE lnE) ?_
    intro a fr
    refine fx_build1 (E := lnE) (p := (L.getD k ln0)) elLn (by decide) fr rfl rfl (by decide) rfl (fr.ev rfl) ?_
    clear fr a
    intro A104 w105 hN106 O107 hA108
    intro a fr
    replace Oo := (((Oo.new hN26).only hO30 (Apart.ne1 ap_Sx_b24)).new hN64).new hN106
    refine fx_append (E := lnE) (l := os) (l' := [(L.getD k ln0)]) elLn fr rfl rfl (by decide) rfl (fr.ev rfl) (fr.ev rfl) (by first | rfl | (simp; done) | (simp; omega)) (by first | rfl | (simp; done) | (simp; omega)) Oo O107.view (by first | omega | (simp only [List.length_append, List.length_cons, List.length_nil, List.nil_append]; omega) | (simp; omega)) (by first | (unfold maxLen; done) | (unfold maxLen; first | omega | (simp; done) | (simp; omega))) ?_
    clear fr a
    intro A109 cap110 w111 O112 hO113 mv114
    replace hV := (((hV.new hN26).only hO30 (Apart.ne1 ap_A_b24)).new hN64).new hN106
    have ap2_A109_A : Apart2 A109 A := moved_apart2 mv114 ap2_A_Sx.symm fun _ hg => hV.lt hg
    replace B4 := B4.new hN106
    have ap_A109_b1 : Apart A109 b1 := moved_apart mv114 ap_Sx_b1 B4.lt
    replace B9 := B9.new hN106
    have ap_A109_b6 : Apart A109 b6 := moved_apart mv114 ap_Sx_b6 B9.lt
    replace B14 := (((B14.new hN26).only hO30 ne_b11_b24).new hN64).new hN106
    have ap_A109_b11 : Apart A109 b11 := moved_apart mv114 ap_Sx_b11 B14.lt
    replace hF := (((hF.trNew hN26).loc hO30 (.inr g_b24)).trNew hN64).trNew hN106
    have gA_A109 := gA_moved hF mv114 gA_Sx
    clear Oo
    refine Za ?_
    refine Znl ?_
    refine Zb ?_
    refine Znx ?_
    refine Zrg ?_
    refine Zm ?_
    refine Zv _ (fun _ fr => x_add rfl (fr.ev rfl) rfl (i64w (r := ((k + 1 : Nat) : Int)) (by omega) (by omega))) ?_
    refine Za ?_
    intro a fr
    refine wpList_nil ?_
    refine fx_next ?_
    have hstep : os ++ wl n x th (L.drop k) pt = os ++ ([(L.getD k ln0)]) ++ wl n x th (L.drop (k + 1)) (pt) := by rw [hdk]; simp only [wl, hc20, if_neg hc31, hc65, Bool.true_and, Bool.and_true, Bool.false_and, Bool.and_false, Bool.or_true, Bool.or_false, Bool.false_eq_true, if_true, if_false, List.nil_append, List.append_assoc, List.cons_append]
    replace hV := hV.only hO113 (fun g h1 h2 => ap2_A_Sx g h1 h2)
    replace B4 := B4.only hO113 ap_Sx_b1
    replace B9 := B9.only hO113 ap_Sx_b6
    replace B14 := B14.only hO113 ap_Sx_b11
    replace hF := hF.locA hO113 gA_Sx
    exact ⟨_, by omega, (k + 1), A109, cap110, (os ++ ([(L.getD k ln0)])), (pt), rfl, fr.sub ⟨rfl, rfl, rfl, rfl, rfl, rfl, rfl, trivial⟩, hF, hV, B4, B9, B14, O112, by omega, (by rw [← hstep]; exact hos), (by simp; omega), ap2_A109_A.symm, ap_A109_b1, ap_A109_b6, ap_A109_b11, gA_A109⟩
 ·have hc20 := of_decide_eq_false hc20
  refine Zex ?_
  refine Zxt ?_
  refine Zxt ?_
  refine Zxx ?_
  refine Znx ?_
  refine Zsq ?_
  refine Zsr ?_
  refine Zm ?_
  refine Zv (.bool (!(th))) (fun _ fr => x_not rfl (fr.ev rfl) rfl) ?_
  refine Zm ?_
  refine Zy (!(th)) (.bool (pt)) (fun _ fr _ => x_move rfl (fr.ev rfl)) ?_
  refine Zy (!(th)) (.bool (!(pt))) (fun _ fr hg => x_not rfl ((fr.ev rfl).trans (onlyIf_t hg)) rfl) ?_
  refine Zv (.bool ((!(th)) && (!(pt)))) (fun _ fr => x_pick_and rfl (fr.ev rfl) (fun hb => ((fr.ev rfl)).trans (onlyIf_t (by simp_all))) (fun _ => rfl) rfl) ?_
  refine Znn ?_
  refine Zcd (fun hc115 => ?_) (fun hc115 => ?_)
  ·have hc115s := hc115
   try simp at hc115s
   refine Zrg ?_
   refine Zm ?_
   refine ZE lnE ag39 (B9.rangeE lnE) ?_
   intro a fr
   refine fx_build1 (E := lnE) (p := x) elLn (by decide) fr rfl rfl (by decide) rfl (fr.ev rfl) ?_
   clear fr a
   intro A116 w117 hN118 O119 hA120
   intro a fr
   replace Oo := Oo.new hN118
   refine fx_append (E := lnE) (l := os) (l' := [x]) elLn fr rfl rfl (by decide) rfl (fr.ev rfl) (fr.ev rfl) (by first | rfl | (simp; done) | (simp; omega)) (by first | rfl | (simp; done) | (simp; omega)) Oo O119.view (by first | omega | (simp only [List.length_append, List.length_cons, List.length_nil, List.nil_append]; omega) | (simp; omega)) (by first | (unfold maxLen; done) | (unfold maxLen; first | omega | (simp; done) | (simp; omega))) ?_
   clear fr a
   intro A121 cap122 w123 O124 hO125 mv126
   replace B4 := B4.new hN118
   have ap_A121_b1 : Apart A121 b1 := moved_apart mv126 ap_Sx_b1 B4.lt
   replace B14 := B14.new hN118
   have ap_A121_b11 : Apart A121 b11 := moved_apart mv126 ap_Sx_b11 B14.lt
   replace hF := hF.trNew hN118
   have gA_A121 := gA_moved hF mv126 gA_Sx
   clear Oo
   refine Za ?_
   refine Znn ?_
   refine Zsr ?_
   refine Zm ?_
   refine Zf fo42_3 ?_
   replace B4 := B4.only hO125 ap_Sx_b1
   refine Zs1 (cs' := rcE.arr (RC.mk id ((n : Nat) : Int) ways A121 ((os ++ ([x])).length) cap122 (ak) al (aw) (gv) gx)) sz40 B4 (by rw [rcE.size]; decide) (rc_set3 _ _ _ _) fun w127 hO128 hBq => ?_
   replace B4 := hBq
   clear hBq
   refine Znn ?_
   refine Zsr ?_
   refine ZE rcE ag42 (B4.rangeE rcE) ?_
   replace B14 := (B14.only hO125 ap_Sx_b11).only hO128 ne_b1_b11.symm
   refine ZsS sz42 (rcE.all _) B14 (rcE.size _) (rcE.size _) fun w129 hO130 hBq => ?_
   replace B14 := hBq
   clear hBq
   refine Znn ?_
   refine Zrt ?_
   refine Zre rfl [_] ⟨⟨_, rfl, loadV_E (E := rcE) ag42 rfl (B14.rangeE rcE)⟩, trivial⟩ ?_
   obtain rfl : k = L.length := by omega
   rw [wl_end (Nat.le_refl _)] at hos
   have hwf : withF n L x = wl n x th L false := by unfold withF; rw [hth]
   have hos2 : withF n L x = os ++ ([x]) := by rw [hwf, ← hos]; revert hc115; cases th <;> cases pt <;> simp
   rw [hos2]
   replace hF := ((hF.locA hO125 gA_Sx).loc hO128 (.inr g_b1)).loc hO130 (.inr g_b11)
   replace O124 := (O124.only hO128 (Apart.ne1 ap_A121_b1)).only hO130 (Apart.ne1 ap_A121_b11)
   exact ⟨_, rfl, A121, cap122, rfl, (O124).view, fun g hg => (gA_A121 g hg).resolve_left (fun h => h), hF⟩
  ·have hc115s := hc115
   try simp at hc115s
   refine Zsk ?_
   refine Znx ?_
   refine Zsr ?_
   refine Zm ?_
   refine Zf fo42_3 ?_
   refine Zs1 (cs' := rcE.arr (RC.mk id ((n : Nat) : Int) ways Sx os.length sc (ak) al (aw) (gv) gx)) sz40 B4 (by rw [rcE.size]; decide) (rc_set3 _ _ _ _) fun w131 hO132 hBq => ?_
   replace B4 := hBq
   clear hBq
   refine Znn ?_
   refine Zsr ?_
   refine ZE rcE ag42 (B4.rangeE rcE) ?_
   replace B14 := B14.only hO132 ne_b1_b11.symm
   refine ZsS sz42 (rcE.all _) B14 (rcE.size _) (rcE.size _) fun w133 hO134 hBq => ?_
   replace B14 := hBq
   clear hBq
   refine Znn ?_
   refine Zrt ?_
   refine Zre rfl [_] ⟨⟨_, rfl, loadV_E (E := rcE) ag42 rfl (B14.rangeE rcE)⟩, trivial⟩ ?_
   obtain rfl : k = L.length := by omega
   rw [wl_end (Nat.le_refl _)] at hos
   have hwf : withF n L x = wl n x th L false := by unfold withF; rw [hth]
   have hos2 : withF n L x = os := by rw [hwf, ← hos]; revert hc115; cases th <;> cases pt <;> simp
   rw [hos2]
   replace Oo := (Oo.only hO132 (Apart.ne1 ap_Sx_b1)).only hO134 (Apart.ne1 ap_Sx_b11)
   replace hF := (hF.loc hO132 (.inr g_b1)).loc hO134 (.inr g_b11)
   exact ⟨_, rfl, Sx, sc, rfl, (Oo).view, fun g hg => (gA_Sx g hg).resolve_left (fun h => h), hF⟩
end Go.Proofs.Ytflnlmibkbojcaa
namespace Go.Proofs.Ytflnlmibkbojcaa
open Go.RowKit
structure RD where
  id : Int
  n : Nat
  ways : Int
  M : List Ln
  ak : Bool
  al : Int
  aw : Bool
  gv : Bool
  gx : Ln
def rcv (r : RD) (A : Option Addr) (cap : Nat) : RC := RC.mk r.id r.n r.ways A r.M.length cap r.ak r.al r.aw r.gv r.gx
def rPutF (r : RD) (addr width v : Int) : RD × Int :=
  if rightA addr width = false then (r, 2) else if stateOf r.M (addr / 16) < 2 then (r, 232)
  else ({ r with M := withF r.n r.M (wrLn ((getN r.M (addr / 16)).getD ln0) addr width v) }, 0)
def RefP (w : World) (A : Option Addr) (r : RD × Int) (v : Value) (w' : World) : Prop :=
  ∃ A' cap', v = .tuple #[.agg (rcE.arr (rcv r.1 A' cap')), .int .i64 r.2] ∧ View lnE w' A' cap' r.1.M ∧ (∀ g, inA A' g → inA A g ∨ w.heap.size ≤ g) ∧ New w w'
theorem refP_mk {w w' : World} {A A' : Option Addr} {cap' : Nat} {r : RD × Int} {r' : RD} {e : Int} (hr : r = (r', e)) (hV : View lnE w' A' cap' r'.M) (hA : ∀ g, inA A' g → inA A g ∨ w.heap.size ≤ g) (hn : New w w') :
    RefP w A r (.tuple #[.agg (rcE.arr (rcv r' A' cap')), .int .i64 e]) w' := by
  subst hr
  exact ⟨A', cap', rfl, hV, hA, hn⟩
theorem ln_cellL (x : Ln) {j : Nat} (hj : j < 16) : (lnE.cells x)[2 + j]? = some (.int .u8 (x.bs.1.getD j 0)) := by
  have := ln_cell x hj
  simpa [Enc.arr] using this
theorem rdI_cons (bs : List Int) : ∀ (m q : Nat), rdI bs q (m + 1) = bs.getD q 0 + 256 * rdI bs (q + 1) m
  | 0, q => by simp [rdI]
  | m + 1, q => by
    have h1 := rdI_cons bs m q
    rw [show rdI bs q (m + 1 + 1) = rdI bs q (m + 1) + bs.getD (q + (m + 1)) 0 * 256 ^ (m + 1) from rfl, h1, show rdI bs (q + 1) (m + 1) = rdI bs (q + 1) m + bs.getD (q + 1 + m) 0 * 256 ^ m from rfl, Int.pow_succ, show q + (m + 1) = q + 1 + m by omega]
    rw [Int.mul_add, Int.add_assoc, Int.mul_comm (256 ^ m) 256, ← Int.mul_assoc, ← Int.mul_assoc, Int.mul_comm _ 256]
theorem rd_up (b : B16) (p m : Nat) (hm : m < 4) : IntKind.u32.wrap (256 * rdI b.1 (p + 1) m) = 256 * rdI b.1 (p + 1) m ∧ 0 ≤ 256 * rdI b.1 (p + 1) m ∧ 256 * rdI b.1 (p + 1) m ≤ 4294967040 := by
  have h := rdI_bd b.2.2 (p + 1) m
  have hb : (256 : Int) ^ m ≤ 16777216 := by
    rcases (show m = 0 ∨ m = 1 ∨ m = 2 ∨ m = 3 by omega) with rfl | rfl | rfl | rfl <;> decide
  have h2 : 0 ≤ 256 * rdI b.1 (p + 1) m ∧ 256 * rdI b.1 (p + 1) m ≤ 4294967040 := by omega
  exact ⟨u32w rfl (by omega), h2⟩
theorem div_next (v : Int) (j : Nat) : v / 256 ^ j / 256 = v / 256 ^ (j + 1) := by
  rw [Int.pow_succ, Int.ediv_ediv_of_nonneg (Int.pow_nonneg (by decide))]
theorem div_bd {v : Int} (h : 0 ≤ v ∧ v < 4294967296) (j : Nat) : 0 ≤ v / 256 ^ j ∧ v / 256 ^ j < 4294967296 := by
  have h1 : (0 : Int) < 256 ^ j := Int.pow_pos (by decide)
  refine ⟨Int.ediv_nonneg h.1 (by omega), ?_⟩
  have := Int.ediv_le_self (256 ^ j) h.1
  omega
end Go.Proofs.Ytflnlmibkbojcaa
namespace Go.Proofs.Ytflnlmibkbojcaa
open Go.RowKit
set_option maxRecDepth 100000 in
set_option maxHeartbeats 4000000 in
theorem rcread_c (addr : Int) (ha : 0 ≤ addr ∧ addr < 4294967296) (width : Int) {w : World} {id : Int} {n : Nat} {ways : Int} {A : Option Addr} {cap : Nat} {L : List Ln} {ak : Bool} {al : Int} {aw gv : Bool} {gx : Ln} (hV : View lnE w A cap L)  : Calls Try.prog 18 #[.agg (rcE.arr (RC.mk id ((n : Nat) : Int) ways A L.length cap (ak) al (aw) (gv) gx)), .int .u32 addr, .int .i64 width] w (Ret fun v w' => v = .tuple #[.int .u32 (readF L addr width).1, .int .i64 (readF L addr width).2] ∧ New w w') := by
 have hVl := hV.len
 unfold maxLen at hVl
 have hF := Only.refl (fun _ => False) w
 refine Zen 44 Try.func18 ?_
 refine Zsr ?_
 refine Znb (cs := rcE.arr (RC.mk id ((n : Nat) : Int) ways A L.length cap (ak) al (aw) (gv) gx)) fun b1 w2 hN3 B4 hb5 => ?_
 refine Za ?_
 refine Za ?_
 refine Znn ?_
 refine Zsq ?_
 refine Zsr ?_
 refine Zm ?_
 refine Zm ?_
 refine Zk (args := #[.int .u32 addr, .int .i64 width]) cf57 (rcright_c addr width (by omega) _) ?_
 rintro v w9 ⟨rfl, hw9⟩
 obtain rfl := hw9.symm
 refine Zv _ (fun _ fr => x_not rfl (fr.ev rfl) rfl) ?_
 refine Znn ?_
 refine Zcd (fun hc8 => ?_) (fun hc8 => ?_)
 ·refine Zsr ?_
  refine Za ?_
  refine Za ?_
  refine Znn ?_
  refine Zrt ?_
  refine Zr1 ?_
  refine Zre rfl [_, _] ⟨rfl, rfl, trivial⟩ ?_
  have hq : readF L addr width = (0, 2) := by unfold readF; rw [if_pos (by simpa using hc8)]
  rw [hq]
  replace hF := hF.trNew hN3
  exact ⟨_, rfl, rfl, hF⟩
 ·refine Zsk ?_
  refine Znx ?_
  refine Zsq ?_
  have hrt : rightA addr width = true := by simpa using hc8
  have hrd := rightA_yes (by omega) hrt
  refine Zrg ?_
  refine ZE rcE ag42 (B4.rangeE rcE) ?_
  refine Zm ?_
  refine Zv (.int .u32 (addr / 16)) (fun _ fr => x_quo rfl (fr.ev rfl) rfl (by decide) (u32q (by omega) (by decide))) ?_
  replace hV := hV.new hN3
  refine Zk cf58 (rcfind_c (addr / 16) (hV)) ?_
  rintro v w9 ⟨rfl, hN10⟩
  refine Za ?_
  refine Znn ?_
  refine Zsq ?_
  refine Zsq ?_
  rcases fnd_spec L (addr / 16) with ⟨hf, hno⟩ | ⟨i, hf, hi, hin, hall⟩
  ·intro a fr
   rw [hf] at fr
   revert a
   refine Zrg ?_
   refine Zm ?_
   refine Zv (.bool true) (fun _ fr => x_lss rfl (fr.ev rfl) rfl rfl) ?_
   refine Znn ?_
   refine Zct ?_
   refine Zsr ?_
   refine Za ?_
   refine Za ?_
   refine Znn ?_
   refine Zrt ?_
   refine Zr1 ?_
   refine Zre rfl [_, _] ⟨rfl, rfl, trivial⟩ ?_
   have hnr : ¬ rightA addr width = false := by rw [hrt]; decide
   have hq : readF L addr width = (0, 232) := by unfold readF; rw [if_neg hnr, fnd_none ⟨hf, hno⟩]
   rw [hq]
   replace hF := (hF.trNew hN3).trNew hN10
   exact ⟨_, rfl, rfl, hF⟩
  ·intro a fr
   rw [hf] at fr
   revert a
   have hi0 : ¬ ((i : Nat) : Int) < 0 := by omega
   have hi1 : 0 ≤ ((i : Nat) : Int) := by omega
   refine Zrg ?_
   refine Zm ?_
   refine Zv (.bool false) (fun _ fr => x_lss rfl (fr.ev rfl) rfl (decide_eq_false hi0)) ?_
   refine Znn ?_
   refine Zcf ?_
   refine Zsk ?_
   refine Znx ?_
   refine Zsr ?_
   refine Za ?_
   refine Znn ?_
   refine Zsq ?_
   refine Zsr ?_
   refine Zm ?_
   refine Zv _ (fun _ fr => x_sub rfl (fr.ev rfl) rfl (i64w (r := width - 1) (by omega) (by omega))) ?_
   refine Za ?_
   refine Znn ?_
   refine Zbl ?_
   intro a fr
   rw [show width - 1 = ((width.toNat : Nat) : Int) - 1 by omega] at fr
   rw [show (Value.int .u32 0) = .int .u32 (rdI (L.getD i ln0).bs.1 ((addr % 16).toNat + width.toNat) (width.toNat - width.toNat)) by rw [Nat.sub_self]; rfl] at fr
   revert a
   intro a fr
   replace hF := (hF.trNew hN3).trNew hN10
   replace hV := hV.new hN10
   replace B4 := B4.new hN10
   refine fx_loop (fun nM a wL => ∃ k : Nat, nM = 0 + k ∧ Fr (44, []) [(1, .int .u32 addr), (2, .int .i64 width), (3, .pointer (some ⟨b1, 0, none⟩)), (8, .int .i64 ((i : Nat) : Int)), (9, .int .u32 (rdI (L.getD i ln0).bs.1 ((addr % 16).toNat + k) (width.toNat - k))), (10, .int .i64 (((k : Nat) : Int) - 1))] a ∧ Only (fun _ => False) w wL ∧ View lnE wL A cap L ∧ Blk wL b1 42 (rcE.arr (RC.mk id ((n : Nat) : Int) ways A L.length cap (ak) al (aw) (gv) gx)) ∧ k ≤ width.toNat) (n0 := _) ⟨width.toNat, rfl, fr.sub ⟨rfl, rfl, rfl, rfl, rfl, rfl, trivial⟩, hF, hV, B4, Nat.le_refl _⟩ ?_
   clear fr a
   rintro n12 a w11 ⟨k, rfl, fr, hF, hV, B4, hk⟩
   revert a
   refine Zsq ?_
   refine Zsr ?_
   refine Zm ?_
   refine Zv _ (fun _ fr => x_geq rfl (fr.ev rfl) rfl rfl) ?_
   refine Znn ?_
   refine Zcd (fun hc13 => ?_) (fun hc13 => ?_)
   ·have hc13 := of_decide_eq_true hc13
    refine Zsk ?_
    refine Znx ?_
    refine Zsq ?_
    refine Zbl ?_
    intro a fr
    rw [show (addr % 16).toNat + k = (addr % 16).toNat + (k - 1) + 1 by omega] at fr
    revert a
    refine Zrg ?_
    refine Zm ?_
    refine Zv (.int .u32 (256 * rdI (L.getD i ln0).bs.1 ((addr % 16).toNat + (k - 1) + 1) (width.toNat - k))) (fun _ fr => x_mul rfl rfl (fr.ev rfl) (rd_up (L.getD i ln0).bs ((addr % 16).toNat + (k - 1)) (width.toNat - k) (by omega)).1) ?_
    refine Zf fo42_3 ?_
    refine Zd (v := .slice A L.length cap) pl40 (B4.cell 3 rfl) ?_
    refine Zm ?_
    refine Zm ?_
    refine Zv (.int .u32 (addr % 16)) (fun _ fr => x_rem rfl (fr.ev rfl) rfl (by decide) (rem_nn (by omega))) ?_
    refine Zv _ (fun _ fr => x_convert Try.underlying32 Try.underlying3 rfl (fr.ev rfl) (i64w (r := addr % 16) rfl (by omega))) ?_
    refine Zm ?_
    refine Zv _ (fun _ fr => x_add rfl (fr.ev rfl) (fr.ev rfl) (i64w (r := ((((addr % 16).toNat) + (k - 1) : Nat) : Int)) (by omega) (by omega))) ?_
    obtain ⟨g14, o15, hA16⟩ := (hV).some_ (by omega)
    refine Zv (.pointer (some ⟨g14, o15 + i * 18, none⟩)) (fun _ fr => x_indexV Try.underlying40 sz39 rfl (fr.ev rfl) hA16 (fr.ev rfl) (by omega) rfl) ?_
    refine Zf fo39_2 ?_
    refine Zv (.pointer (some ⟨g14, o15 + i * 18 + 2 + (((addr % 16).toNat) + (k - 1)), none⟩)) (fun _ fr => x_indexArr Try.underlying22 sz16 rfl (fr.ev rfl) (fr.ev rfl) (by omega) (show o15 + i * 18 + 2 + (((addr % 16).toNat) + (k - 1)) * 1 = o15 + i * 18 + 2 + (((addr % 16).toNat) + (k - 1)) by omega)) ?_
    refine Zd (v := .int .u8 ((L.getD i ln0).bs.1.getD (((addr % 16).toNat) + (k - 1)) 0)) pl5 (range_cell ((hV).elem hA16 i ln0 (by omega)) (2 + (((addr % 16).toNat) + (k - 1))) (ln_cellL (L.getD i ln0) (by omega)) (show o15 + i * 18 + (2 + (((addr % 16).toNat) + (k - 1))) = o15 + i * 18 + 2 + (((addr % 16).toNat) + (k - 1)) by omega)) ?_
    refine Zv (.int .u32 ((L.getD i ln0).bs.1.getD (((addr % 16).toNat) + (k - 1)) 0)) (fun _ fr => x_convert Try.underlying5 Try.underlying32 rfl (fr.ev rfl) (u32w (r := (L.getD i ln0).bs.1.getD (((addr % 16).toNat) + (k - 1)) 0) rfl (by have := getD_bd (L.getD i ln0).bs.2.2 (((addr % 16).toNat) + (k - 1)); omega))) ?_
    refine Zv (.int .u32 (rdI (L.getD i ln0).bs.1 ((addr % 16).toNat + (k - 1)) (width.toNat - (k - 1)))) (fun _ fr => x_add rfl (fr.ev rfl) (fr.ev rfl) (by rw [show width.toNat - (k - 1) = width.toNat - k + 1 by omega, rdI_cons, Int.add_comm]; exact u32w rfl (by have := getD_bd (L.getD i ln0).bs.2.2 ((addr % 16).toNat + (k - 1)); have := (rd_up (L.getD i ln0).bs ((addr % 16).toNat + (k - 1)) (width.toNat - k) (by omega)).2; omega))) ?_
    refine Za ?_
    refine Znl ?_
    refine Zb ?_
    refine Znx ?_
    refine Zrg ?_
    refine Zm ?_
    refine Zv _ (fun _ fr => x_sub rfl (fr.ev rfl) rfl (i64w (r := (((k - 1) : Nat) : Int) - 1) (by omega) (by omega))) ?_
    refine Za ?_
    intro a fr
    refine wpList_nil ?_
    refine fx_next ?_
    exact ⟨_, by omega, (k - 1), rfl, fr.sub ⟨rfl, rfl, rfl, rfl, rfl, rfl, trivial⟩, hF, hV, B4, by omega⟩
   ·have hc13 := of_decide_eq_false hc13
    refine Zex ?_
    refine Zxt ?_
    refine Zxt ?_
    refine Zxx ?_
    refine Znx ?_
    refine Zsr ?_
    refine Zm ?_
    refine Za ?_
    refine Za ?_
    refine Znn ?_
    refine Zrt ?_
    refine Zre rfl [_, _] ⟨rfl, rfl, trivial⟩ ?_
    have hnr : ¬ rightA addr width = false := by rw [hrt]; decide
    obtain rfl : k = 0 := by omega
    have hq : readF L addr width = (rdI (L.getD i ln0).bs.1 (addr % 16).toNat width.toNat, 0) := by unfold readF; rw [if_neg hnr, get_at hi hin hall]
    rw [hq]
    exact ⟨_, rfl, rfl, hF⟩
set_option maxRecDepth 100000 in
set_option maxHeartbeats 4000000 in
theorem rcput_c (addr : Int) (ha : 0 ≤ addr ∧ addr < 4294967296) (width value : Int) (hval : 0 ≤ value ∧ value < 4294967296) {w : World} {id : Int} {n : Nat} {ways : Int} {A : Option Addr} {cap : Nat} {L : List Ln} {ak : Bool} {al : Int} {aw gv : Bool} {gx : Ln} (hV : View lnE w A cap L) (hn : 0 < n ∧ n ≤ 64) (hl : L.length ≤ 1000)  : Calls Try.prog 16 #[.agg (rcE.arr (RC.mk id ((n : Nat) : Int) ways A L.length cap (ak) al (aw) (gv) gx)), .int .u32 addr, .int .i64 width, .int .u32 value] w (Ret fun v w' => RefP w A (rPutF (RD.mk id n ways L ak al aw gv gx) addr width value) v w') := by
 have hVl := hV.len
 unfold maxLen at hVl
 have hF := Only.refl (fun _ => False) w
 refine Zen 60 Try.func16 ?_
 refine Zsr ?_
 refine Znb (cs := rcE.arr (RC.mk id ((n : Nat) : Int) ways A L.length cap (ak) al (aw) (gv) gx)) fun b1 w2 hN3 B4 hb5 => ?_
 refine Zna (z := zv4) (cs := rcE.arr rc0) (by kernel_rfl) fun b6 w7 hN8 B9 hb10 => ?_
 replace hV := hV.new hN3
 have ap_A_b6 : Apart A b6 := hV.apart hb10
 replace hF := hF.trNew hN3
 have g_b6 := Nat.le_trans hF.size hb10
 refine Za ?_
 refine Znn ?_
 refine Zsq ?_
 refine Zsr ?_
 refine Zm ?_
 refine Zm ?_
 refine Zk (args := #[.int .u32 addr, .int .i64 width]) cf57 (rcright_c addr width (by omega) _) ?_
 rintro v w9 ⟨rfl, hw9⟩
 obtain rfl := hw9.symm
 refine Zv _ (fun _ fr => x_not rfl (fr.ev rfl) rfl) ?_
 refine Znn ?_
 refine Zcd (fun hc13 => ?_) (fun hc13 => ?_)
 ·refine Zsr ?_
  replace B4 := B4.new hN8
  refine ZE rcE ag42 (B4.rangeE rcE) ?_
  refine ZsS sz42 (rcE.all _) B9 (rcE.size _) (rcE.size _) fun w14 hO15 hBq => ?_
  replace B9 := hBq
  clear hBq
  refine Za ?_
  refine Znn ?_
  refine Zrt ?_
  refine Zr1 ?_
  refine Zre rfl [_, _] ⟨⟨_, rfl, loadV_E (E := rcE) ag42 rfl (B9.rangeE rcE)⟩, rfl, trivial⟩ ?_
  have hq : rPutF (RD.mk id n ways L ak al aw gv gx) addr width value = ((RD.mk id n ways L (ak) al (aw) (gv) gx), 2) := by unfold rPutF; rw [if_pos (by simpa using hc13)]
  replace hV := (hV.new hN8).only hO15 (Apart.ne1 ap_A_b6)
  replace hF := (hF.trNew hN8).loc hO15 (.inr g_b6)
  exact ⟨_, rfl, refP_mk (r' := (RD.mk id n ways L (ak) al (aw) (gv) gx)) hq hV (fun g hg => .inl hg) hF⟩
 ·refine Zsk ?_
  refine Znx ?_
  refine Zsq ?_
  have hrt : rightA addr width = true := by simpa using hc13
  have hrd := rightA_yes (by omega) hrt
  refine Zrg ?_
  replace B4 := B4.new hN8
  refine ZE rcE ag42 (B4.rangeE rcE) ?_
  refine Zm ?_
  refine Zv (.int .u32 (addr / 16)) (fun _ fr => x_quo rfl (fr.ev rfl) rfl (by decide) (u32q (by omega) (by decide))) ?_
  replace hV := hV.new hN8
  refine Zk cf58 (rcfind_c (addr / 16) (hV)) ?_
  rintro v w16 ⟨rfl, hN17⟩
  refine Za ?_
  refine Znn ?_
  refine Zsq ?_
  refine Zsq ?_
  rcases fnd_spec L (addr / 16) with ⟨hf, hno⟩ | ⟨i, hf, hi, hin, hall⟩
  ·intro a fr
   rw [hf] at fr
   revert a
   refine Zrg ?_
   refine Zm ?_
   refine Zv (.bool true) (fun _ fr => x_lss rfl (fr.ev rfl) rfl rfl) ?_
   refine Zm ?_
   refine Zs ?_
   refine Zs ?_
   refine Zs ?_
   refine Zs ?_
   refine Zs ?_
   refine Zs ?_
   refine Zs ?_
   refine Zpt ?_
   refine Znn ?_
   refine Zct ?_
   refine Zsr ?_
   replace B4 := B4.new hN17
   refine ZE rcE ag42 (B4.rangeE rcE) ?_
   replace B9 := B9.new hN17
   refine ZsS sz42 (rcE.all _) B9 (rcE.size _) (rcE.size _) fun w18 hO19 hBq => ?_
   replace B9 := hBq
   clear hBq
   refine Za ?_
   refine Znn ?_
   refine Zrt ?_
   refine Zr1 ?_
   refine Zre rfl [_, _] ⟨⟨_, rfl, loadV_E (E := rcE) ag42 rfl (B9.rangeE rcE)⟩, rfl, trivial⟩ ?_
   have hq : rPutF (RD.mk id n ways L ak al aw gv gx) addr width value = ((RD.mk id n ways L (ak) al (aw) (gv) gx), 232) := by unfold rPutF; rw [if_neg (show ¬ rightA addr width = false by rw [hrt]; decide), if_pos (show stateOf L (addr / 16) < 2 by rw [state_no ⟨hf, hno⟩]; decide)]
   replace hF := ((hF.trNew hN8).trNew hN17).loc hO19 (.inr g_b6)
   replace hV := (hV.new hN17).only hO19 (Apart.ne1 ap_A_b6)
   exact ⟨_, rfl, refP_mk (r' := (RD.mk id n ways L (ak) al (aw) (gv) gx)) hq hV (fun g hg => .inl hg) hF⟩
  ·intro a fr
   rw [hf] at fr
   revert a
   have hi0 : ¬ ((i : Nat) : Int) < 0 := by omega
   have hi1 : 0 ≤ ((i : Nat) : Int) := by omega
   refine Zrg ?_
   refine Zm ?_
   refine Zv (.bool false) (fun _ fr => x_lss rfl (fr.ev rfl) rfl (decide_eq_false hi0)) ?_
   refine Zm ?_
   refine Zf fo42_3 ?_
   replace B4 := B4.new hN17
   refine Zd (v := .slice A L.length cap) pl40 (B4.cell 3 rfl) ?_
   refine Zm ?_
   replace hV := hV.new hN17
   obtain ⟨g20, o21, hA22⟩ := (hV).some_ (by omega)
   refine Zv (.pointer (some ⟨g20, o21 + i * 18, none⟩)) (fun _ fr => x_indexV Try.underlying40 sz39 rfl (fr.ev rfl) hA22 (fr.ev rfl) (by omega) rfl) ?_
   refine Zf fo39_1 ?_
   refine Zd (v := .int .i64 ((L.getD i ln0).state)) pl36 (range_cell ((hV).elem hA22 i ln0 (by omega)) 1 rfl rfl) ?_
   refine Zv _ (fun _ fr => x_lss rfl (fr.ev rfl) rfl rfl) ?_
   refine Zpf ?_
   refine Znn ?_
   refine Zcd (fun hc23 => ?_) (fun hc23 => ?_)
   ·have hc23 := of_decide_eq_true hc23
    refine Zsr ?_
    refine ZE rcE ag42 (B4.rangeE rcE) ?_
    replace B9 := B9.new hN17
    refine ZsS sz42 (rcE.all _) B9 (rcE.size _) (rcE.size _) fun w24 hO25 hBq => ?_
    replace B9 := hBq
    clear hBq
    refine Za ?_
    refine Znn ?_
    refine Zrt ?_
    refine Zr1 ?_
    refine Zre rfl [_, _] ⟨⟨_, rfl, loadV_E (E := rcE) ag42 rfl (B9.rangeE rcE)⟩, rfl, trivial⟩ ?_
    have hq : rPutF (RD.mk id n ways L ak al aw gv gx) addr width value = ((RD.mk id n ways L (ak) al (aw) (gv) gx), 232) := by unfold rPutF; rw [if_neg (show ¬ rightA addr width = false by rw [hrt]; decide), if_pos (show stateOf L (addr / 16) < 2 by rw [state_at hi hin hall]; exact hc23)]
    replace hF := ((hF.trNew hN8).trNew hN17).loc hO25 (.inr g_b6)
    replace hV := hV.only hO25 (Apart.ne1 ap_A_b6)
    exact ⟨_, rfl, refP_mk (r' := (RD.mk id n ways L (ak) al (aw) (gv) gx)) hq hV (fun g hg => .inl hg) hF⟩
   ·have hc23 := of_decide_eq_false hc23
    refine Zsk ?_
    refine Znx ?_
    refine Zsr ?_
    refine Zf fo42_3 ?_
    refine Zd (v := .slice A L.length cap) pl40 (B4.cell 3 rfl) ?_
    refine Zm ?_
    refine Zv (.pointer (some ⟨g20, o21 + i * 18, none⟩)) (fun _ fr => x_indexV Try.underlying40 sz39 rfl (fr.ev rfl) hA22 (fr.ev rfl) (by omega) rfl) ?_
    refine ZE lnE ag39 ((hV).elem hA22 i ln0 (by omega)) ?_
    refine Zna (z := zv1) (cs := lnE.arr ln0) (by kernel_rfl) fun b26 w27 hN28 B29 hb30 => ?_
    have ap_A_b26 : Apart A b26 := hV.apart hb30
    have ne_b1_b26 : NE b1 b26 := NE.mk (Nat.lt_of_lt_of_le B4.lt hb30)
    replace B9 := B9.new hN17
    have ne_b6_b26 : NE b6 b26 := NE.mk (Nat.lt_of_lt_of_le B9.lt hb30)
    replace hF := (hF.trNew hN8).trNew hN17
    have g_b26 := Nat.le_trans hF.size hb30
    refine ZsS sz39 (lnE.all _) B29 (lnE.size _) (lnE.size _) fun w31 hO32 hBq => ?_
    replace B29 := hBq
    clear hBq
    refine Znn ?_
    refine Zsq ?_
    refine Zsr ?_
    refine Za ?_
    refine Znn ?_
    refine Zbl ?_
    intro a fr
    rw [show (Value.int .u32 value) = .int .u32 (value / 256 ^ 0) by simp] at fr
    revert a
    intro a fr
    replace hV := (hV.new hN28).only hO32 (Apart.ne1 ap_A_b26)
    replace B4 := (B4.new hN28).only hO32 ne_b1_b26
    replace B9 := (B9.new hN28).only hO32 ne_b6_b26
    replace hF := (hF.trNew hN28).loc hO32 (.inr g_b26)
    refine fx_loop (fun nM a wL => ∃ j : Nat, nM = (width - j).toNat ∧ Fr (60, []) [(1, .int .u32 addr), (2, .int .i64 width), (4, .pointer (some ⟨b1, 0, none⟩)), (8, .pointer (some ⟨b6, 0, none⟩)), (11, .pointer (some ⟨b26, 0, none⟩)), (3, .int .u32 (value / 256 ^ j)), (12, .int .i64 ((j : Nat) : Int))] a ∧ Only (fun _ => False) w wL ∧ View lnE wL A cap L ∧ Blk wL b1 42 (rcE.arr (RC.mk id ((n : Nat) : Int) ways A L.length cap (ak) al (aw) (gv) gx)) ∧ Blk wL b6 42 (rcE.arr rc0) ∧ Blk wL b26 39 (lnE.arr { (L.getD i ln0) with bs := wrB (L.getD i ln0).bs (addr % 16).toNat value j }) ∧ ((j : Nat) : Int) ≤ width) (n0 := _) ⟨0, rfl, fr.sub ⟨rfl, rfl, rfl, rfl, rfl, rfl, rfl, trivial⟩, hF, hV, B4, B9, B29, by omega⟩ ?_
    clear fr a
    rintro n34 a w33 ⟨j, rfl, fr, hF, hV, B4, B9, B29, hj⟩
    revert a
    refine Zsq ?_
    refine Zsr ?_
    refine Zm ?_
    refine Zm ?_
    refine Zv _ (fun _ fr => x_lss rfl (fr.ev rfl) (fr.ev rfl) rfl) ?_
    refine Znn ?_
    refine Zcd (fun hc35 => ?_) (fun hc35 => ?_)
    ·have hc35 := of_decide_eq_true hc35
     refine Zsk ?_
     refine Znx ?_
     refine Zsq ?_
     refine Zbl ?_
     refine Zsr ?_
     refine Zm ?_
     refine Zv (.int .u32 (addr % 16)) (fun _ fr => x_rem rfl (fr.ev rfl) rfl (by decide) (rem_nn (by omega))) ?_
     refine Zv _ (fun _ fr => x_convert Try.underlying32 Try.underlying3 rfl (fr.ev rfl) (i64w (r := addr % 16) rfl (by omega))) ?_
     refine Zm ?_
     refine Zv _ (fun _ fr => x_add rfl (fr.ev rfl) (fr.ev rfl) (i64w (r := ((((addr % 16).toNat) + j : Nat) : Int)) (by omega) (by omega))) ?_
     refine Zm ?_
     refine Zv _ (fun _ fr => x_rem rfl (fr.ev rfl) rfl (by decide) (rem_nn (div_bd hval j).1)) ?_
     refine Zv (.int .u8 (value / 256 ^ j % 256)) (fun _ fr => x_convert Try.underlying32 Try.underlying5 rfl (fr.ev rfl) (u8w rfl (by omega))) ?_
     refine Zf fo39_2 ?_
     refine Zv (.pointer (some ⟨b26, 2 + (((addr % 16).toNat) + j), none⟩)) (fun _ fr => x_indexArr Try.underlying22 sz16 rfl (fr.ev rfl) (fr.ev rfl) (by omega) (show 2 + (((addr % 16).toNat) + j) * 1 = 2 + (((addr % 16).toNat) + j) by omega)) ?_
     refine Zs1 (cs' := lnE.arr { (L.getD i ln0) with bs := wrB (L.getD i ln0).bs (addr % 16).toNat value (j + 1) }) sz5 B29 (by rw [lnE.size]; show _ < 18; omega) (ln_setb (L.getD i ln0) (addr % 16).toNat j value (by omega)) fun w36 hO37 hBq => ?_
     replace B29 := hBq
     clear hBq
     refine Znn ?_
     refine Zrg ?_
     refine Zm ?_
     refine Zv (.int .u32 (value / 256 ^ (j + 1))) (fun _ fr => x_quo rfl (fr.ev rfl) rfl (by decide) (by rw [u32q (div_bd hval j) (by decide), div_next])) ?_
     refine Za ?_
     refine Znl ?_
     refine Zb ?_
     refine Znx ?_
     refine Zrg ?_
     refine Zm ?_
     refine Zv _ (fun _ fr => x_add rfl (fr.ev rfl) rfl (i64w (r := ((j + 1 : Nat) : Int)) (by omega) (by omega))) ?_
     refine Za ?_
     intro a fr
     refine wpList_nil ?_
     refine fx_next ?_
     replace hV := hV.only hO37 (Apart.ne1 ap_A_b26)
     replace B4 := B4.only hO37 ne_b1_b26
     replace B9 := B9.only hO37 ne_b6_b26
     replace hF := hF.loc hO37 (.inr g_b26)
     exact ⟨_, by omega, (j + 1), rfl, fr.sub ⟨rfl, rfl, rfl, rfl, rfl, rfl, rfl, trivial⟩, hF, hV, B4, B9, B29, by omega⟩
    ·have hc35 := of_decide_eq_false hc35
     refine Zex ?_
     refine Zxt ?_
     refine Zxt ?_
     refine Zxx ?_
     refine Znx ?_
     refine Zsr ?_
     refine Zf fo39_1 ?_
     refine Zs1 (cs' := lnE.arr { { (L.getD i ln0) with bs := wrB (L.getD i ln0).bs (addr % 16).toNat value j } with state := 3 }) sz36 B29 (by rw [lnE.size]; decide) (ln_setstate _ _) fun w38 hO39 hBq => ?_
     replace B29 := hBq
     clear hBq
     refine Znn ?_
     refine Zsq ?_
     obtain rfl : j = width.toNat := by omega
     replace B29 : Blk w38 b26 39 (lnE.arr (wrLn (L.getD i ln0) addr width value)) := B29
     refine Zrg ?_
     replace B4 := B4.only hO39 ne_b1_b26
     refine ZE rcE ag42 (B4.rangeE rcE) ?_
     refine ZE lnE ag39 (B29.rangeE lnE) ?_
     replace hV := hV.only hO39 (Apart.ne1 ap_A_b26)
     refine Zk (args := #[.agg (rcE.arr (RC.mk id ((n : Nat) : Int) ways A L.length cap (ak) al (aw) (gv) gx)), .agg (lnE.arr (wrLn (L.getD i ln0) addr width value))]) cf59 (rcwith_c (wrLn (L.getD i ln0) addr width value) (hV) (by omega) (by omega)) ?_
     rintro v w44 ⟨A40, cap41, rfl, V42, hA43, hN45⟩
     replace B9 := B9.only hO39 ne_b6_b26
     have ap_A40_b6 : Apart A40 b6 := new_apart hA43 B9.lt
     replace hF := hF.loc hO39 (.inr g_b26)
     have gA_A40 := gA_new hF hA43
     replace B9 := B9.new hN45
     refine ZsS sz42 (rcE.all _) B9 (rcE.size _) (rcE.size _) fun w46 hO47 hBq => ?_
     replace B9 := hBq
     clear hBq
     refine Za ?_
     refine Znn ?_
     refine Zrt ?_
     refine Zre rfl [_, _] ⟨⟨_, rfl, loadV_E (E := rcE) ag42 rfl (B9.rangeE rcE)⟩, rfl, trivial⟩ ?_
     have hq : rPutF (RD.mk id n ways L ak al aw gv gx) addr width value = ((RD.mk id n ways (withF n L (wrLn (L.getD i ln0) addr width value)) (ak) al (aw) (gv) gx), 0) := by unfold rPutF; rw [if_neg (show ¬ rightA addr width = false by rw [hrt]; decide), if_neg (show ¬ stateOf L (addr / 16) < 2 by rw [state_at hi hin hall]; exact hc23)]; dsimp only; rw [get_at hi hin hall]; rfl
     replace hF := (hF.trNew hN45).loc hO47 (.inr g_b6)
     replace V42 := V42.only hO47 (Apart.ne1 ap_A40_b6)
     exact ⟨_, rfl, refP_mk (r' := (RD.mk id n ways (withF n L (wrLn (L.getD i ln0) addr width value)) (ak) al (aw) (gv) gx)) hq V42 (fun g hg => .inr ((gA_A40 g hg).resolve_left (fun h => h))) hF⟩
end Go.Proofs.Ytflnlmibkbojcaa
namespace Go.Proofs.Ytflnlmibkbojcaa
open Go.RowKit
section
variable {n : Nat} {ways : Int} {L : List Ln} {num : Int} {x : Ln}
theorem get_append (A B : List Ln) (num : Int) : getN (A ++ B) num = (getN A num).or (getN B num) := by
  unfold getN
  exact List.find?_append
theorem get_ofs_other {i : Nat} (h : ¬ i = si n num) : getN (ofs n L i) num = none := by
  unfold getN
  rw [List.find?_eq_none]
  intro y hy e
  have h1 := (List.mem_filter.1 hy).2
  simp only [isNum, decide_eq_true_eq] at e
  simp only [inSet, decide_eq_true_eq] at h1
  rw [e] at h1
  exact h h1.symm
theorem get_allP (L : List Ln) (num : Int) : ∀ m, getN (allP n L m) num = if si n num < m then getN L num else none
  | 0 => by simp [allP, getN]
  | m + 1 => by
    rw [allP_succ, get_append, get_allP L num m]
    by_cases h1 : si n num < m
    · rw [if_pos h1, if_pos (by omega), get_ofs_other (by omega), Option.or_none]
    · by_cases h2 : m = si n num
      · subst h2
        rw [if_neg h1, if_pos (by omega), ofs_get]
        rfl
      · rw [if_neg h1, if_neg (by omega), get_ofs_other h2]
        rfl
theorem get_all (hn : 0 < n) (L : List Ln) (num : Int) : getN (allL n L) num = getN L num := by
  rw [← allP_end, get_allP, if_pos (si_lt hn)]
theorem state_all (hn : 0 < n) (L : List Ln) (num : Int) : stateOf (allL n L) num = stateOf L num := by
  unfold stateOf
  rw [get_all hn]
theorem fnd_get (L : List Ln) (num : Int) : (getN L num).isSome = decide (0 ≤ fndI L num) := by
  rcases fnd_spec L num with ⟨hf, hno⟩ | ⟨i, hf, hi, hin, hall⟩
  · rw [hf, fnd_none ⟨hf, hno⟩]; rfl
  · rw [hf, get_at hi hin hall]
    exact (decide_eq_true (by omega)).symm
theorem flat_congr {f g : Nat → List Ln} : ∀ {l : List Nat}, (∀ i ∈ l, f i = g i) → l.flatMap f = l.flatMap g
  | [], _ => rfl
  | a :: r, h => by
    rw [List.flatMap_cons, List.flatMap_cons, h a (by simp), flat_congr fun i hi => h i (by simp [hi])]
def rep1 (x l : Ln) : Ln := if l.num = x.num then x else l
theorem rep1_num (x l : Ln) : (rep1 x l).num = l.num := by
  unfold rep1
  split
  · rename_i h; exact h.symm
  · rfl
theorem wl_there (M : List Ln) : ∀ p, wl n x true M p = M.map (rep1 x) := by
  induction M with
  | nil => intro p; rfl
  | cons l r ih =>
    intro p
    simp only [wl, Bool.not_true, Bool.false_and, Bool.or_false, List.map_cons, ih]
    rfl
theorem repl_map : ∀ {L : List Ln}, Uniq L → repl x L = L.map (rep1 x)
  | [], _ => rfl
  | l :: r, hu => by
    have hu' := List.pairwise_cons.1 hu
    by_cases h : l.num = x.num
    · simp only [repl, if_pos h, List.map_cons, rep1]
      congr 1
      symm
      have : r.map (rep1 x) = r.map (fun y => y) := List.map_congr_left fun y hy => by
        unfold rep1
        rw [if_neg (fun e => hu'.1 y hy (h.trans e.symm))]
      exact this.trans (List.map_id' r)
    · simp only [repl, if_neg h, List.map_cons, rep1]
      congr 1
      exact repl_map hu'.2
theorem ofs_map (L : List Ln) (i : Nat) : ofs n (L.map (rep1 x)) i = (ofs n L i).map (rep1 x) := by
  unfold ofs
  rw [List.filter_map]
  congr 1
  apply List.filter_congr
  intro y _
  show inSet n i (rep1 x y) = inSet n i y
  unfold inSet
  rw [rep1_num]
theorem all_map (L : List Ln) : allL n (L.map (rep1 x)) = (allL n L).map (rep1 x) := by
  unfold allL
  rw [show ofs n (L.map (rep1 x)) = fun i => (ofs n L i).map (rep1 x) from funext fun i => ofs_map L i, List.map_flatMap]
theorem wl_low : ∀ (A B : List Ln), (∀ y ∈ A, ¬ y.num = x.num ∧ si n y.num ≤ si n x.num) → wl n x false (A ++ B) false = A ++ wl n x false B false
  | [], _, _ => rfl
  | y :: r, B, h => by
    have hy := h y (by simp)
    rw [List.cons_append]
    simp only [wl, Bool.not_false, Bool.true_and, decide_eq_false (show ¬ si n x.num < si n y.num by omega), Bool.or_false, Bool.false_eq_true, if_false, if_neg hy.1, List.nil_append]
    rw [wl_low r B fun z hz => h z (by simp [hz])]
    rfl
theorem wl_done : ∀ (B : List Ln), (∀ y ∈ B, ¬ y.num = x.num) → wl n x false B true = B
  | [], _ => rfl
  | y :: r, h => by
    simp only [wl, Bool.not_true, Bool.false_and, Bool.and_false, Bool.or_false, Bool.false_eq_true, if_false, if_neg (h y (by simp)), List.nil_append]
    rw [wl_done r fun z hz => h z (by simp [hz])]
theorem wl_high (B : List Ln) (h : ∀ y ∈ B, ¬ y.num = x.num ∧ si n x.num < si n y.num) : wl n x false B false = x :: B := by
  cases B with
  | nil => rfl
  | cons y r =>
    have hy := h y (by simp)
    simp only [wl, Bool.not_false, Bool.true_and, decide_eq_true hy.2, Bool.or_true, if_true, if_neg hy.1]
    rw [wl_done r fun z hz => (h z (by simp [hz])).1]
    rfl
theorem all_split (L : List Ln) {q : Nat} (hq : q < n) : allL n L = allP n L (q + 1) ++ ((List.range (n - (q + 1))).map (q + 1 + ·)).flatMap (ofs n L) := by
  unfold allL allP
  rw [← List.flatMap_append, ← List.range_add]
  congr 1
  congr 1
  omega
theorem mem_allP {y : Ln} {m : Nat} (h : y ∈ allP n L m) : y ∈ L ∧ si n y.num < m := by
  obtain ⟨i, hi, hy⟩ := List.mem_flatMap.1 h
  have h1 := List.mem_filter.1 hy
  have h2 : si n y.num = i := by simpa [inSet] using h1.2
  exact ⟨h1.1, by rw [h2]; exact List.mem_range.1 hi⟩
theorem mem_rest {y : Ln} {q k : Nat} (h : y ∈ ((List.range k).map (q + 1 + ·)).flatMap (ofs n L)) : y ∈ L ∧ q < si n y.num := by
  obtain ⟨i, hi, hy⟩ := List.mem_flatMap.1 h
  obtain ⟨j, _, rfl⟩ := List.mem_map.1 hi
  have h1 := List.mem_filter.1 hy
  have h2 : si n y.num = q + 1 + j := by simpa [inSet] using h1.2
  exact ⟨h1.1, by omega⟩
theorem allP_snoc (L : List Ln) (x : Ln) : ∀ m, m ≤ si n x.num → allP n (L ++ [x]) m = allP n L m
  | 0, _ => rfl
  | m + 1, h => by rw [allP_succ, allP_succ, allP_snoc L x m (by omega), ofs_snoc_other _ _ (by omega)]
theorem wl_new (hn : 0 < n) (h : getN L x.num = none) : wl n x false (allL n L) false = allL n (L ++ [x]) := by
  have hq := si_lt (num := x.num) hn
  have hno := get_none h
  rw [all_split L hq, all_split (L ++ [x]) hq, wl_low _ _ fun y hy => ⟨hno y (mem_allP hy).1, by have := (mem_allP hy).2; omega⟩, wl_high _ fun y hy => ⟨hno y (mem_rest hy).1, (mem_rest hy).2⟩, allP_succ, allP_succ, allP_snoc L x _ (Nat.le_refl _), ofs_snoc_same]
  have e : ((List.range (n - (si n x.num + 1))).map (si n x.num + 1 + ·)).flatMap (ofs n (L ++ [x])) = ((List.range (n - (si n x.num + 1))).map (si n x.num + 1 + ·)).flatMap (ofs n L) := by
    apply flat_congr
    intro i hi
    obtain ⟨j, _, rfl⟩ := List.mem_map.1 hi
    exact ofs_snoc_other _ _ (by omega)
  rw [e]
  simp
theorem with_put (hn : 0 < n) (hu : Uniq L) (he : putE n ways L x = 0) : withF n (allL n L) x = allL n (putL n ways L x) := by
  unfold withF
  rw [← fnd_get, get_all hn]
  unfold putL
  rw [if_pos he]
  cases hg : getN L x.num with
  | none =>
    rw [if_pos rfl]
    exact wl_new hn hg
  | some y =>
    rw [if_neg (by simp), repl_map hu, all_map]
    exact wl_there _ _
end
def StOk (L : List Ln) : Prop := ∀ x ∈ L, 1 ≤ x.state ∧ x.state ≤ 3
section
variable {n : Nat} {ways : Int} {L : List Ln} {x : Ln}
theorem StOk.nil : StOk [] := fun x h => by cases h
theorem StOk.drop (h : StOk L) (k : Int) : StOk (dropL L k) := fun x hx => h x (List.mem_filter.1 hx).1
theorem StOk.putL (h : StOk L) (x : Ln) : StOk (putL n ways L x) := by
  unfold Go.Proofs.Ytflnlmibkbojcaa.putL
  split
  · rename_i he
    have hx : 1 ≤ x.state ∧ x.state ≤ 3 := by
      unfold putE at he
      split at he
      · omega
      · rename_i h2
        simp [okS] at h2
        omega
    split
    · intro y hy
      rcases List.mem_append.1 hy with hy | hy
      · exact h y hy
      · rw [List.mem_singleton] at hy
        subst hy
        exact hx
    · intro y hy
      rcases mem_repl hy with hy | rfl
      · exact h y hy
      · exact hx
  · exact h
theorem st_of (h : StOk L) (num : Int) : stateOf L num = 0 ∧ getN L num = none ∨ (1 ≤ stateOf L num ∧ stateOf L num ≤ 3) ∧ ∃ y, getN L num = some y ∧ stateOf L num = y.state := by
  unfold stateOf
  cases hg : getN L num with
  | none => exact .inl ⟨rfl, rfl⟩
  | some y => exact .inr ⟨h y (mem_of_get hg), y, rfl, rfl⟩
theorem writes_iff (h : StOk L) (num : Int) : (writesB (stateOf L num) = true) ↔ ¬ stateOf L num < 2 := by
  have := st_of h num
  simp only [writesB, Bool.or_eq_true, decide_eq_true_eq]
  omega
theorem writes_not (h : StOk L) (num : Int) : (writesB (stateOf L num) = false) ↔ stateOf L num < 2 := by
  have := writes_iff h num
  cases hw : writesB (stateOf L num) <;> simp [hw] at this <;> simp <;> omega
end
structure DOk (d : CD) : Prop where
  id : 0 ≤ d.id ∧ d.id < 4
  bd : 0 < d.n ∧ d.n ≤ 64 ∧ 1 ≤ d.ways ∧ d.ways ≤ 8
  uniq : Uniq d.L
  fits : Fits d.n d.ways d.L
  room : RoomOk d
  st : StOk d.L
def rdOf (d : CD) : RD := ⟨d.id, d.n, d.ways, allL d.n d.L, d.ask.isSome, (d.ask.getD (0, false)).1, (d.ask.getD (0, false)).2, d.giv.isSome, d.giv.getD ln0⟩
end Go.Proofs.Ytflnlmibkbojcaa
namespace Go.Proofs.Ytflnlmibkbojcaa
open Go.RowKit
section
variable {d : CD}
theorem read_eq (h : DOk d) (addr width : Int) : readF (allL d.n d.L) addr width = readF d.L addr width := by
  unfold readF
  rw [get_all h.bd.1]
theorem put_eq (h : DOk d) (addr width v : Int) : rPutF (rdOf d) addr width v = (rdOf (writeF d addr width v).1, (writeF d addr width v).2) := by
  unfold rPutF writeF
  by_cases h1 : rightA addr width = false
  · rw [if_pos h1, if_pos h1]
  rw [if_neg h1, if_neg h1]
  rw [show stateOf (rdOf d).M (addr / 16) = stateOf d.L (addr / 16) from state_all h.bd.1 _ _]
  by_cases h2 : stateOf d.L (addr / 16) < 2
  · rw [if_pos h2, if_pos ((writes_not h.st _).2 h2)]
  · have hw := (writes_iff h.st (addr / 16)).2 h2
    rw [if_neg h2, if_neg (by rw [hw]; decide)]
    rw [show getN (rdOf d).M (addr / 16) = getN d.L (addr / 16) from get_all h.bd.1 _ _]
    show (({ rdOf d with M := withF d.n (allL d.n d.L) _ } : RD), (0 : Int)) = _
    rw [with_put (ways := d.ways) h.bd.1 h.uniq (put_there hw (wrLn ((getN d.L (addr / 16)).getD ln0) addr width v) rfl rfl)]
    rfl
end
section
variable {d : CD}
theorem DOk.new {id : Int} {n : Nat} {ways : Int} (hid : 0 ≤ id ∧ id < 4) (hb : 0 < n ∧ n ≤ 64 ∧ 1 ≤ ways ∧ ways ≤ 8) : DOk ⟨id, n, ways, [], none, none⟩ := ⟨hid, hb, List.Pairwise.nil, Fits.nil (by show 0 ≤ ways; omega), new_room id n ways, StOk.nil⟩
theorem DOk.drop (h : DOk d) (k : Int) (g : Option Ln) : DOk { d with L := dropL d.L k, giv := g } := ⟨h.id, h.bd, h.uniq.drop k, h.fits.drop k, RoomOk.drop h.fits h.room h.bd k g, h.st.drop k⟩
theorem DOk.out (h : DOk d) (x : Ln) : DOk (outF d x).1 := by
  unfold outF
  split
  · exact h.drop x.num d.giv
  · split
    · exact h
    · exact h.drop x.num (some x)
theorem DOk.evict (h : DOk d) (pick : Int) : DOk (evictF d pick).1 := by
  unfold evictF
  split
  · exact h
  · exact h.out _
theorem DOk.write (h : DOk d) (addr width v : Int) : DOk (writeF d addr width v).1 := by
  have hr := write_room h.room addr width v
  revert hr
  unfold writeF
  split
  · exact fun _ => h
  · split
    · exact fun _ => h
    · exact fun hr => ⟨h.id, h.bd, h.uniq.putL, h.fits.putL _, hr, h.st.putL _⟩
theorem DOk.ask (h : DOk d) (line : Int) (hl : 0 ≤ line ∧ line < 4294967296) (wr : Bool) (pick : Int) : DOk (askF d line hl wr pick).1 := by
  have hr := ask_room h.bd h.fits h.room line hl wr pick
  revert hr
  unfold askF
  split
  · exact fun _ => h
  · split
    · exact fun _ => h
    · split
      · exact fun hr => ⟨h.id, h.bd, h.uniq, h.fits, hr, h.st⟩
      · split
        · intro hr
          have ho := h.out ‹Ln›
          exact ⟨ho.id, ho.bd, ho.uniq, ho.fits, hr, ho.st⟩
        · exact fun _ => h
theorem DOk.back (h : DOk d) (m : Msg) : DOk (takeF.backF d m).1 := by
  have hr := back_room h.bd h.fits h.room m
  revert hr
  unfold takeF.backF
  split
  · by_cases k : m.kind = 4
    · simp only [k, if_true]
      exact fun hr => ⟨h.id, h.bd, h.uniq.putL, h.fits.putL _, hr, h.st.putL _⟩
    · simp only [if_neg k]
      exact fun _ => h.drop _ d.giv
  · exact fun _ => h
theorem DOk.take (h : DOk d) (m : Msg) : DOk (takeF d m).1 := by
  have hr := take_room h.bd h.fits h.room m
  revert hr
  unfold takeF
  split
  · exact fun _ => h
  split
  · split
    · exact fun hr => ⟨h.id, h.bd, h.uniq.putL, h.fits.putL _, hr, h.st.putL _⟩
    · exact fun _ => h
  split
  · split
    · split
      · exact fun _ => h
      · exact fun _ => h.back m
    · exact fun _ => h.back m
  split
  · split
    · exact fun _ => h
    · exact fun _ => h.drop m.line d.giv
  split
  · exact fun hr => ⟨h.id, h.bd, h.uniq, h.fits, hr, h.st⟩
  · exact fun _ => h
end
end Go.Proofs.Ytflnlmibkbojcaa
namespace Go.Proofs.Ytflnlmibkbojcaa
open Go.RowKit
def CacAt (w : World) (Fp : Nat → Prop) (b : Nat) (d : CD) : Prop := CacheAt w Fp b d ∧ DOk d
section
variable {w w' : World} {Fp T : Nat → Prop} {b D : Nat} {d : CD} {ask : Option (Int × Bool)} {giv : Option Ln} {p : Value}
theorem CacheAt.cells (h : CacheAt w Fp b d) {g : Nat} (hg : Fp g) : ∃ o : Obj, w.heap[g]? = some o ∧ o.isCells = true := by
  obtain ⟨lb, FpL, pa, pg, FpA, FpG, hB, hL, hA, hG, hP⟩ := h
  rcases (hP.foot g).1 hg with rfl | hg | hg | hg
  · exact hB.cells
  · exact hL.cells hg
  · exact hA.cells hg
  · exact hG.cells hg
theorem CacAt.only (h : CacAt w Fp b d) (k : Only T w w') (hs : ∀ g, Fp g → ¬ T g) : CacAt w' Fp b d := ⟨h.1.only k hs, h.2⟩
theorem CacAt.new (h : CacAt w Fp b d) (k : New w w') : CacAt w' Fp b d := ⟨h.1.new k, h.2⟩
theorem CacAt.lt (h : CacAt w Fp b d) {g : Nat} (hg : Fp g) : g < w.heap.size := h.1.lt hg
theorem CacAt.apart (h : CacAt w Fp b d) {c : Nat} (hc : w.heap.size ≤ c) : ¬ Fp c := h.1.apart hc
theorem CacAt.turn {B : Nat} (h : CacAt w Fp b d) (k : Turn B w w') : CacAt w' Fp b d := ⟨h.1.turn k, h.2⟩
theorem CacAt.cells (h : CacAt w Fp b d) {g : Nat} (hg : Fp g) : ∃ o : Obj, w.heap[g]? = some o ∧ o.isCells = true := h.1.cells hg
theorem CacAt.mark (h : CacAt w Fp b d) (k : MarkAt w D) : ¬ Fp D := fun hi => by
  obtain ⟨o, ho, hc⟩ := h.cells hi
  rw [show w.heap[D]? = _ from k] at ho
  cases ho
  cases hc
end
theorem own_tag {P : Program} {α : Type} [DecidableEq α] {E : Enc P α} {w : World} {A : Option Addr} {cap : Nat} {l : List α} (h : Own E w A cap l) {g : Nat} (hg : inA A g) : ∃ cs, Blk w g E.T cs := by
  obtain ⟨o, rfl⟩ := hg
  obtain ⟨_, _, ⟨h3, _⟩ | ⟨g', o', cs, h3, hB, _⟩⟩ := h
  · cases h3
  · simp only [Option.some.injEq, Addr.mk.injEq] at h3
    rw [h3.1]
    exact ⟨cs, hB⟩
theorem CacheAt.tag {w : World} {Fp : Nat → Prop} {b : Nat} {d : CD} (h : CacheAt w Fp b d) {g : Nat} (hg : Fp g) : ∃ t cs, t ≠ 35 ∧ Blk w g t cs := by
  obtain ⟨lb, FpL, pa, pg, FpA, FpG, hB, hL, hA, hG, hP⟩ := h
  rcases (hP.foot g).1 hg with rfl | hg | hg | hg
  · exact ⟨_, _, by decide, hB⟩
  · obtain ⟨S, FpR, rs, h1, h2, h3, h4⟩ := hL
    rcases (h4.foot g).1 hg with rfl | rfl | hg
    · exact ⟨_, _, by decide, h1⟩
    · exact ⟨_, _, by decide, h2⟩
    · obtain ⟨i, hi, hi2⟩ := (h3.foot g).1 hg
      obtain ⟨cs, hc⟩ := own_tag (h3.own hi) hi2
      exact ⟨_, cs, by decide, hc⟩
  · rcases ha : d.ask with _ | ⟨l, wr⟩
    · rw [ha] at hA
      exact absurd hg (hA.2 g)
    · rw [ha] at hA
      obtain ⟨ba, h1, h2, h3, h4⟩ := hA
      rw [(h3 g).1 hg]
      exact ⟨_, _, by decide, h2⟩
  · rcases ha : d.giv with _ | x
    · rw [ha] at hG
      exact absurd hg (hG.2 g)
    · rw [ha] at hG
      obtain ⟨bg, h1, h2, h3⟩ := hG
      rw [(h3 g).1 hg]
      exact ⟨_, _, by decide, h2⟩
theorem CacAt.msg_ap {w : World} {Fp : Nat → Prop} {b : Nat} {d : CD} (h : CacAt w Fp b d) {A : Option Addr} {cap : Nat} {l : List Msg} (hO : Own msgE w A cap l) : ∀ k, Fp k → inA A k → False := fun k h1 h2 => by
  obtain ⟨t, cs, ht, hB⟩ := h.1.tag h1
  obtain ⟨cs2, hB2⟩ := own_tag hO h2
  have := hB.symm.trans hB2
  simp only [Option.some.injEq, Obj.cells.injEq] at this
  exact ht this.2.1
def TakeU (w : World) (Fp : Nat → Prop) (b : Nat) (r : CD × List Msg × Int) (v : Value) (w' : World) : Prop :=
  ∃ A' cap', v = .tuple #[.slice A' r.2.1.length cap', .int .i64 r.2.2] ∧ Own msgE w' A' cap' r.2.1 ∧ (∀ g, inA A' g → w.heap.size ≤ g) ∧ ∃ Fp', CacAt w' Fp' b r.1 ∧ Only Fp w w' ∧ ∀ g, Fp' g → Fp g ∨ w.heap.size ≤ g
section
variable {w : World} {Fp : Nat → Prop} {b : Nat} {d : CD}
theorem u_ask (H : CacAt w Fp b d) (line : Int) (hln : 0 ≤ line ∧ line < 4294967296) (wr : Bool) (pick : Int) : Calls Try.prog 13 #[.pointer (some ⟨b, 0, none⟩), .int .u32 line, .bool wr, .int .i64 pick] w (Ret fun v w' => TakeU w Fp b (askF d line hln wr pick) v w') := by
  obtain ⟨id, n, ways, L, ask, giv⟩ := d
  refine (ask_c H.1 line hln pick wr).mono ?_
  rintro e w' ⟨v, rfl, A', cap', h1, h2, h3, Fp', h4, h5, h6⟩
  exact ⟨_, rfl, A', cap', h1, h2, h3, Fp', ⟨h4, H.2.ask line hln wr pick⟩, h5, h6⟩
theorem u_take (H : CacAt w Fp b d) (m : Msg) : Calls Try.prog 14 #[.pointer (some ⟨b, 0, none⟩), .agg (msgE.arr m)] w (Ret fun v w' => TakeU w Fp b (takeF d m) v w') := by
  obtain ⟨id, n, ways, L, ask, giv⟩ := d
  refine (take_c H.1 m H.2.id (fun h => data_room H.2.room m h)).mono ?_
  rintro e w' ⟨v, rfl, A', cap', h1, h2, h3, Fp', h4, h5, h6⟩
  exact ⟨_, rfl, A', cap', h1, h2, h3, Fp', ⟨h4, H.2.take m⟩, h5, h6⟩
def WriteU (w : World) (Fp : Nat → Prop) (b : Nat) (r : CD × Int) (v : Value) (w' : World) : Prop :=
  v = .int .i64 r.2 ∧ ∃ Fp', CacAt w' Fp' b r.1 ∧ Only Fp w w' ∧ ∀ g, Fp' g → Fp g ∨ w.heap.size ≤ g
theorem u_write (H : CacAt w Fp b d) (addr : Int) (ha : 0 ≤ addr ∧ addr < 4294967296) (width value : Int) : Calls Try.prog 15 #[.pointer (some ⟨b, 0, none⟩), .int .u32 addr, .int .i64 width, .int .u32 value] w (Ret fun v w' => WriteU w Fp b (writeF d addr width value) v w') := by
  obtain ⟨id, n, ways, L, ask, giv⟩ := d
  refine (write_c addr ha width H.1 value).mono ?_
  rintro e w' ⟨v, rfl, h1, Fp', h4, h5, h6⟩
  exact ⟨_, rfl, h1, Fp', ⟨h4, H.2.write addr width value⟩, h5, h6⟩
theorem u_read (H : CacAt w Fp b d) (addr : Int) (ha : 0 ≤ addr ∧ addr < 4294967296) (width : Int) : Calls Try.prog 17 #[.pointer (some ⟨b, 0, none⟩), .int .u32 addr, .int .i64 width] w (Ret fun v w' => v = .tuple #[.int .u32 (readF d.L addr width).1, .int .i64 (readF d.L addr width).2] ∧ New w w') := by
  obtain ⟨lb, FpL, pa, pg, FpA, FpG, hB, hL, hA, hG, hP⟩ := H.1
  exact read_c addr ha width hB hL hP.lb
theorem u_state (H : CacAt w Fp b d) (line : Int) (hln : 0 ≤ line ∧ line < 4294967296) : Calls Try.prog 34 #[.pointer (some ⟨b, 0, none⟩), .int .u32 line] w (Ret fun v w' => v = .int .i64 (stateOf d.L line) ∧ New w w') := by
  obtain ⟨lb, FpL, pa, pg, FpA, FpG, hB, hL, hA, hG, hP⟩ := H.1
  exact state_c line hln hB hL hP.lb
theorem u_len (H : DOk d) : d.L.length ≤ 512 ∧ (allL d.n d.L).length ≤ 512 := by
  have h1 := len_most H.bd H.fits
  have h2 := allL_len H.bd.1 d.L
  omega
theorem u_lines (H : CacAt w Fp b d) : Calls Try.prog 30 #[.pointer (some ⟨b, 0, none⟩)] w (Ret fun v w' => ∃ A' cap', v = .slice A' (allL d.n d.L).length cap' ∧ Own lnE w' A' cap' (allL d.n d.L) ∧ (∀ g, inA A' g → w.heap.size ≤ g) ∧ New w w') := by
  have hl := u_len H.2
  obtain ⟨lb, FpL, pa, pg, FpA, FpG, hB, hL, hA, hG, hP⟩ := H.1
  exact clines_c hB hL hP.lb (by omega)
theorem u_asked (H : CacAt w Fp b d) : Calls Try.prog 32 #[.pointer (some ⟨b, 0, none⟩)] w (Ret fun v w' => v = .tuple #[.int .u32 (d.ask.getD (0, false)).1, .bool (d.ask.getD (0, false)).2, .bool d.ask.isSome] ∧ New w w') := by
  obtain ⟨id, n, ways, L, ask, giv⟩ := d
  rcases ask with _ | ⟨al, aw⟩
  · exact asked_none H.1
  · exact asked_some H.1
theorem u_given (H : CacAt w Fp b d) : Calls Try.prog 33 #[.pointer (some ⟨b, 0, none⟩)] w (Ret fun v w' => v = .tuple #[.agg (lnE.arr (d.giv.getD ln0)), .bool d.giv.isSome] ∧ New w w') := by
  obtain ⟨id, n, ways, L, ask, giv⟩ := d
  rcases giv with _ | gx
  · exact given_none H.1
  · exact given_some H.1
theorem u_new (id : Int) (n : Nat) (ways : Int) (hid : 0 ≤ id ∧ id < 4) (hr : rightB ((n : Nat) : Int) ways = true) (w : World) : Calls Try.prog 12 #[.int .i64 id, .int .i64 ((n : Nat) : Int), .int .i64 ways] w (Ret fun v w' => ∃ b Fp, v = .tuple #[.pointer (some ⟨b, 0, none⟩), .int .i64 0] ∧ CacAt w' Fp b ⟨id, n, ways, [], none, none⟩ ∧ (∀ g, Fp g → w.heap.size ≤ g) ∧ New w w') := by
  refine (cnew_yes id n ways (by omega) (by omega) hr w).mono ?_
  rintro e w' ⟨v, rfl, b, Fp, h1, h2, h3, h4⟩
  exact ⟨_, rfl, b, Fp, h1, ⟨h2, DOk.new hid (right_bd hr)⟩, h3, h4⟩
variable {A : Option Addr} {cap : Nat}
def rav (d : CD) (A : Option Addr) (cap : Nat) : RC := rcv (rdOf d) A cap
def RefPU (w : World) (A : Option Addr) (r : CD × Int) (v : Value) (w' : World) : Prop :=
  ∃ A' cap', v = .tuple #[.agg (rcE.arr (rav r.1 A' cap')), .int .i64 r.2] ∧ View lnE w' A' cap' (allL r.1.n r.1.L) ∧ (∀ g, inA A' g → inA A g ∨ w.heap.size ≤ g) ∧ New w w'
theorem ur_put (hV : View lnE w A cap (allL d.n d.L)) (hd : DOk d) (addr : Int) (ha : 0 ≤ addr ∧ addr < 4294967296) (width value : Int) (hv : 0 ≤ value ∧ value < 4294967296) : Calls Try.prog 16 #[.agg (rcE.arr (rav d A cap)), .int .u32 addr, .int .i64 width, .int .u32 value] w (Ret fun v w' => RefPU w A (writeF d addr width value) v w') := by
  have hl := u_len hd
  refine (rcput_c addr ha width value hv (ak := d.ask.isSome) (al := (d.ask.getD (0, false)).1) (aw := (d.ask.getD (0, false)).2) (gv := d.giv.isSome) (gx := d.giv.getD ln0) (id := d.id) (ways := d.ways) (n := d.n) hV ⟨hd.bd.1, hd.bd.2.1⟩ (by omega)).mono ?_
  rintro e w' ⟨v, rfl, h⟩
  rw [show (RD.mk d.id d.n d.ways (allL d.n d.L) d.ask.isSome (d.ask.getD (0, false)).1 (d.ask.getD (0, false)).2 d.giv.isSome (d.giv.getD ln0)) = rdOf d from rfl, put_eq hd] at h
  exact ⟨_, rfl, h⟩
theorem ur_read (hV : View lnE w A cap (allL d.n d.L)) (hd : DOk d) (addr : Int) (ha : 0 ≤ addr ∧ addr < 4294967296) (width : Int) : Calls Try.prog 18 #[.agg (rcE.arr (rav d A cap)), .int .u32 addr, .int .i64 width] w (Ret fun v w' => v = .tuple #[.int .u32 (readF d.L addr width).1, .int .i64 (readF d.L addr width).2] ∧ New w w') := by
  rw [← read_eq hd]
  exact rcread_c addr ha width hV
theorem ur_state (hV : View lnE w A cap (allL d.n d.L)) (hd : DOk d) (line : Int) : Calls Try.prog 60 #[.agg (rcE.arr (rav d A cap)), .int .u32 line] w (Ret fun v w' => v = .int .i64 (stateOf d.L line) ∧ New w w') := by
  rw [← state_all hd.bd.1]
  exact rcstate_c line hV
end
end Go.Proofs.Ytflnlmibkbojcaa
namespace Go.Proofs.Ytflnlmibkbojcaa
open Go.RowKit
set_option maxRecDepth 100000 in
set_option maxHeartbeats 4000000 in
theorem rsame_c {w : World} {A B : Option Addr} {ca cb : Nat} {la lb : List Ln} (hV : View lnE w A ca la) (hW : View lnE w B cb lb) : Calls Try.prog 31 #[.slice A la.length ca, .slice B lb.length cb] w (Ret fun v w' => v = .bool (decide (la = lb)) ∧ New w w') := by
 have hVl := hV.len
 have hWl := hW.len
 unfold maxLen at hVl hWl
 have hF := Only.refl (fun _ => False) w
 refine Zen 26 Try.func31 ?_
 refine Zsr ?_
 refine Za ?_
 refine Znn ?_
 refine Zsq ?_
 refine Zsr ?_
 refine Zm ?_
 refine Zv _ (fun _ fr => x_len Try.underlying40 rfl (fr.ev rfl)) ?_
 refine Zm ?_
 refine Zv _ (fun _ fr => x_len Try.underlying40 rfl (fr.ev rfl)) ?_
 refine Zv _ (fun _ fr => x_neq rfl (fr.ev rfl) (fr.ev rfl) rfl) ?_
 refine Znn ?_
 refine Zcd (fun hc1 => ?_) (fun hc1 => ?_)
 ·have hc1 := of_decide_eq_true hc1
  refine Zsr ?_
  refine Za ?_
  refine Znn ?_
  refine Zrt ?_
  refine Zr1 ?_
  refine Zre rfl [_] ⟨rfl, trivial⟩ ?_
  exact ⟨_, rfl, congrArg Value.bool (decide_eq_false fun he => hc1 (by rw [he])).symm, hF⟩
 ·have hc1 := of_decide_eq_false hc1
  refine Zsk ?_
  refine Znx ?_
  refine Zsq ?_
  refine Zsr ?_
  refine Za ?_
  refine Znn ?_
  refine Zbl ?_
  intro a fr
  refine fx_loop (fun nM a wL => ∃ i : Nat, nM = la.length - i ∧ Fr (26, []) [(0, .slice A la.length ca), (1, .slice B lb.length cb), (5, .int .i64 ((i : Nat) : Int)), (4, .bool false)] a ∧ Only (fun _ => False) w wL ∧ View lnE wL A ca la ∧ View lnE wL B cb lb ∧ i ≤ la.length ∧ (∀ j, j < i → la.getD j ln0 = lb.getD j ln0)) (n0 := _) ⟨0, rfl, fr.sub ⟨rfl, rfl, rfl, rfl, trivial⟩, hF, hV, hW, by omega, (fun j hj => absurd hj (by omega))⟩ ?_
  clear fr a
  rintro n3 a w2 ⟨i, rfl, fr, hF, hV, hW, hi, hall⟩
  revert a
  refine Zsq ?_
  refine Zsr ?_
  refine Zm ?_
  refine Zm ?_
  refine Zv _ (fun _ fr => x_len Try.underlying40 rfl (fr.ev rfl)) ?_
  refine Zv _ (fun _ fr => x_lss rfl (fr.ev rfl) (fr.ev rfl) rfl) ?_
  refine Znn ?_
  refine Zcd (fun hc4 => ?_) (fun hc4 => ?_)
  ·have hc4 := of_decide_eq_true hc4
   refine Zsk ?_
   refine Znx ?_
   refine Zsq ?_
   refine Zbl ?_
   refine Zsq ?_
   refine Zhd (n := 9) (fun w => View lnE w A ca la ∧ View lnE w B cb lb ∧ True) ?_
   intro w5 hN6
   replace hV := hV.new hN6
   replace hW := hW.new hN6
   have hS9 := And.intro hV (And.intro hW trivial)
   refine Zhm 0 hS9 ?_
   refine Zhm 1 hS9 ?_
   obtain ⟨g7, o8, hA9⟩ := (hV).some_ (by omega)
   have hS9 := And.intro hV (And.intro hW trivial)
   refine Zht 2 rfl (.pointer (some ⟨g7, o8 + i * 18, none⟩)) hS9 (fun _ fr _ _ => x_indexV Try.underlying40 sz39 rfl (fr.ev rfl) hA9 (fr.ev rfl) (by omega) rfl) ?_
   refine ZhE 3 lnE ag39 hS9 (fun _ ⟨hV, _⟩ => ((hV).elem hA9 i ln0 (by omega))) ?_
   refine Zhm 4 hS9 ?_
   refine Zhm 5 hS9 ?_
   obtain ⟨g10, o11, hA12⟩ := (hW).some_ (by omega)
   have hS9 := And.intro hV (And.intro hW trivial)
   refine Zht 6 rfl (.pointer (some ⟨g10, o11 + i * 18, none⟩)) hS9 (fun _ fr _ _ => x_indexV Try.underlying40 sz39 rfl (fr.ev rfl) hA12 (fr.ev rfl) (by omega) rfl) ?_
   refine ZhE 7 lnE ag39 hS9 (fun _ ⟨_, hW, _⟩ => ((hW).elem hA12 i ln0 (by omega))) ?_
   refine Zht 8 rfl _ hS9 (fun _ fr _ _ => x_neE lnER rfl rfl (fr.ev rfl) (fr.ev rfl) rfl) ?_
   refine Zhn ?_
   refine Znx ?_
   refine Zcd (fun hc13 => ?_) (fun hc13 => ?_)
   ·refine Zsr ?_
    refine Za ?_
    refine Znn ?_
    refine Zrt ?_
    refine Zr2 ?_
    refine Zr1 ?_
    refine Zr1 ?_
    refine Zr2 ?_
    refine Zr1 ?_
    refine Zre rfl [_] ⟨rfl, trivial⟩ ?_
    replace hF := hF.trNew hN6
    exact ⟨_, rfl, congrArg Value.bool (decide_eq_false fun he => by rw [he] at hc13; simp at hc13).symm, hF⟩
   ·refine Zsk ?_
    refine Zb ?_
    refine Znx ?_
    refine Zrg ?_
    refine Zm ?_
    refine Zv _ (fun _ fr => x_add rfl (fr.ev rfl) rfl (i64w (r := ((i + 1 : Nat) : Int)) (by omega) (by omega))) ?_
    refine Za ?_
    intro a fr
    refine wpList_nil ?_
    refine fx_next ?_
    replace hF := hF.trNew hN6
    exact ⟨_, by omega, (i + 1), rfl, fr.sub ⟨rfl, rfl, rfl, rfl, trivial⟩, hF, hV, hW, by omega, fun j hj => by rcases Nat.lt_succ_iff_lt_or_eq.1 hj with h | rfl; exact hall j h; simpa using hc13⟩
  ·have hc4 := of_decide_eq_false hc4
   refine Zex ?_
   refine Zxt ?_
   refine Zxt ?_
   refine Zxx ?_
   refine Znx ?_
   refine Zsr ?_
   refine Za ?_
   refine Znn ?_
   refine Zrt ?_
   refine Zre rfl [_] ⟨rfl, trivial⟩ ?_
   exact ⟨_, rfl, congrArg Value.bool (decide_eq_true (ext_getD ln0 (by omega) fun j hj => hall j (by omega))).symm, hF⟩
end Go.Proofs.Ytflnlmibkbojcaa
namespace Go.Proofs.Ytflnlmibkbojcaa
open Go.RowKit
structure Stp where
  kind : Int
  pick : Int
  width : Int
  line : Int
  addr : Int
  value : Int
  wr : Bool
  msg : Msg
  hl : 0 ≤ line ∧ line < 4294967296
  ha : 0 ≤ addr ∧ addr < 4294967296
  hv : 0 ≤ value ∧ value < 4294967296
  deriving DecidableEq
def Stp.cells (m : Stp) : List Value := .int .i64 m.kind :: .int .i64 m.pick :: .int .i64 m.width :: .int .u32 m.line :: .int .u32 m.addr :: .int .u32 m.value :: .bool m.wr :: m.msg.cells
def stpE : Enc Try.prog Stp where
  T := 45
  n := 27
  cells := Stp.cells
  len := fun m => by simp [Stp.cells, m.msg.len]
  one := fun m v hv => by
    simp only [Stp.cells, List.mem_cons] at hv
    rcases hv with rfl | rfl | rfl | rfl | rfl | rfl | rfl | hv
    iterate 7 rfl
    exact m.msg.one v hv
  pos := by decide
def stp0 : Stp := ⟨0, 0, 0, 0, 0, 0, false, msg0, by decide, by decide, by decide⟩
def stepF (d : CD) (s : Stp) : CD :=
  if s.kind = 1 then (askF d s.line s.hl s.wr s.pick).1
  else if s.kind = 2 then (takeF d s.msg).1
  else if s.kind = 3 then (evictF d s.pick).1
  else if s.kind = 4 then (writeF d s.addr s.width s.value).1
  else d
theorem DOk.step {d : CD} (h : DOk d) (s : Stp) : DOk (stepF d s) := by
  unfold stepF
  split
  · exact h.ask _ _ _ _
  split
  · exact h.take _
  split
  · exact h.evict _
  split
  · exact h.write _ _ _
  · exact h
end Go.Proofs.Ytflnlmibkbojcaa
namespace Go.Proofs.Ytflnlmibkbojcaa
open Go.RowKit
set_option maxRecDepth 100000 in
set_option maxHeartbeats 4000000 in
theorem same_c {w : World} {Fp : Nat → Prop} {b : Nat} {d : CD} {A : Option Addr} {cap : Nat} (H : CacAt w Fp b d) (hV : View lnE w A cap (allL d.n d.L)) (ap2_Fp_A : ∀ k, Fp k → inA A k → False)  : Calls Try.prog 19 #[.pointer (some ⟨b, 0, none⟩), .agg (rcE.arr (rav d A cap))] w (Ret fun v w' => v = .bool true ∧ New w w') := by
 have hlen := u_len H.2
 have hVl := hV.len
 unfold maxLen at hVl
 have hF := Only.refl (fun _ => False) w
 refine Zen 71 Try.func19 ?_
 refine Zsr ?_
 refine Znb (cs := rcE.arr (rav d A cap)) fun b1 w2 hN3 B4 hb5 => ?_
 refine Za ?_
 refine Znn ?_
 refine Zsr ?_
 refine Zm ?_
 replace H := H.new hN3
 refine Zk cf32 (u_asked H) ?_
 rintro v w6 ⟨rfl, hN7⟩
 refine Zm ?_
 refine Zt ?_
 refine Zt ?_
 refine Zt ?_
 refine Za ?_
 refine Za ?_
 refine Za ?_
 refine Znn ?_
 refine Zsr ?_
 refine Zm ?_
 replace H := H.new hN7
 refine Zk cf33 (u_given H) ?_
 rintro v w8 ⟨rfl, hN9⟩
 refine Zm ?_
 refine Zt ?_
 refine Zt ?_
 refine Zna (z := zv1) (cs := lnE.arr ln0) (by kernel_rfl) fun b10 w11 hN12 B13 hb14 => ?_
 replace H := H.new hN9
 have ap_Fp_b10 : ¬ Fp b10 := H.apart hb14
 replace hV := ((hV.new hN3).new hN7).new hN9
 have ap_A_b10 : Apart A b10 := hV.apart hb14
 replace B4 := (B4.new hN7).new hN9
 have ne_b1_b10 : NE b1 b10 := NE.mk (Nat.lt_of_lt_of_le B4.lt hb14)
 replace hF := ((hF.trNew hN3).trNew hN7).trNew hN9
 have g_b10 := Nat.le_trans hF.size hb14
 refine ZsS sz39 (lnE.all _) B13 (lnE.size _) (lnE.size _) fun w15 hO16 hBq => ?_
 replace B13 := hBq
 clear hBq
 refine Za ?_
 refine Znn ?_
 refine Zsq ?_
 refine Zsq ?_
 refine Zhd (n := 36) (fun w => Blk w b1 42 (rcE.arr (rav d A cap)) ∧ Blk w b10 39 (lnE.arr (d.giv.getD ln0)) ∧ True) ?_
 intro w17 hN18
 replace B4 := ((B4.new hN12).only hO16 ne_b1_b10).new hN18
 replace B13 := B13.new hN18
 have hS9 := And.intro B4 (And.intro B13 trivial)
 refine Zhm 0 hS9 ?_
 refine Zhf 2 fo42_3 hS9 ?_
 refine Zhl (v := .slice A ((allL d.n d.L).length) cap) 3 pl40 hS9 (fun _ ⟨B4, _⟩ => (B4.cell 3 rfl)) ?_
 refine Zh1 1 ?_
 replace H := ((H.new hN12).only hO16 (ne1P ap_Fp_b10)).new hN18
 refine Zk cf30 (u_lines H) ?_
 rintro v w23 ⟨A19, cap20, rfl, O21, hA22, hN24⟩
 replace B4 := B4.new hN24
 replace B13 := B13.new hN24
 refine Zhb ⟨B4, B13, trivial⟩ ?_
 refine Zh1 4 ?_
 replace hV := (((hV.new hN12).only hO16 (Apart.ne1 ap_A_b10)).new hN18).new hN24
 refine Zk cf31 (rsame_c (la := (allL d.n d.L)) (lb := (allL d.n d.L)) (O21.view) (hV)) ?_
 rintro v w25 ⟨rfl, hN26⟩
 intro a fr
 rw [show decide ((allL d.n d.L) = (allL d.n d.L)) = true from decide_eq_true rfl] at fr
 revert a
 replace B4 := B4.new hN26
 replace B13 := B13.new hN26
 refine Zhb ⟨B4, B13, trivial⟩ ?_
 have hS9 := And.intro B4 (And.intro B13 trivial)
 refine Zht 5 rfl (.bool false) hS9 (fun _ fr _ _ => x_not rfl (fr.ev rfl) rfl) ?_
 refine Zhm 6 hS9 ?_
 refine Zhm 7 hS9 ?_
 refine Zhf 8 fo42_4 hS9 ?_
 refine Zhl (v := .bool (d.ask.isSome)) 9 pl4 hS9 (fun _ ⟨B4, _⟩ => (B4.cell 4 rfl)) ?_
 refine Zht 10 rfl (.bool false) hS9 (fun _ fr _ _ => x_bneq Try.underlying4 rfl (fr.ev rfl) (fr.ev rfl) (by simp)) ?_
 refine Zht 11 rfl (.bool false) hS9 (fun _ fr _ _ => x_pick_f rfl (fr.ev rfl) (fr.ev rfl)) ?_
 refine Zhm 12 hS9 ?_
 refine Zhm 13 hS9 ?_
 refine Zhf 14 fo42_5 hS9 ?_
 refine Zhl (v := .int .u32 ((d.ask.getD (0, false)).1)) 15 pl32 hS9 (fun _ ⟨B4, _⟩ => (B4.cell 5 rfl)) ?_
 refine Zht 16 rfl (.bool false) hS9 (fun _ fr _ _ => x_neq rfl (fr.ev rfl) (fr.ev rfl) (by simp)) ?_
 refine Zht 17 rfl (.bool false) hS9 (fun _ fr _ _ => x_pick_f rfl (fr.ev rfl) (fr.ev rfl)) ?_
 refine Zhm 18 hS9 ?_
 refine Zhm 19 hS9 ?_
 refine Zhf 20 fo42_6 hS9 ?_
 refine Zhl (v := .bool ((d.ask.getD (0, false)).2)) 21 pl4 hS9 (fun _ ⟨B4, _⟩ => (B4.cell 6 rfl)) ?_
 refine Zht 22 rfl (.bool false) hS9 (fun _ fr _ _ => x_bneq Try.underlying4 rfl (fr.ev rfl) (fr.ev rfl) (by simp)) ?_
 refine Zht 23 rfl (.bool false) hS9 (fun _ fr _ _ => x_pick_f rfl (fr.ev rfl) (fr.ev rfl)) ?_
 refine Zhm 24 hS9 ?_
 refine Zhm 25 hS9 ?_
 refine Zhf 26 fo42_7 hS9 ?_
 refine Zhl (v := .bool (d.giv.isSome)) 27 pl4 hS9 (fun _ ⟨B4, _⟩ => (B4.cell 7 rfl)) ?_
 refine Zht 28 rfl (.bool false) hS9 (fun _ fr _ _ => x_bneq Try.underlying4 rfl (fr.ev rfl) (fr.ev rfl) (by simp)) ?_
 refine Zht 29 rfl (.bool false) hS9 (fun _ fr _ _ => x_pick_f rfl (fr.ev rfl) (fr.ev rfl)) ?_
 refine Zhm 30 hS9 ?_
 refine ZhE 31 lnE ag39 hS9 (fun _ ⟨_, B13, _⟩ => (B13.rangeE lnE)) ?_
 refine Zhf 32 fo42_8 hS9 ?_
 refine ZhE (p := (d.giv.getD ln0)) 33 lnE ag39 hS9 (fun _ ⟨B4, _⟩ => (B4.part (rc_back (rav d A cap)))) ?_
 refine Zht 34 rfl (.bool false) hS9 (fun _ fr _ _ => x_neE lnER rfl rfl (fr.ev rfl) (fr.ev rfl) (by simp)) ?_
 refine Zht 35 rfl (.bool false) hS9 (fun _ fr _ _ => x_pick_f rfl (fr.ev rfl) (fr.ev rfl)) ?_
 refine Zhn ?_
 refine Znx ?_
 refine Zcf ?_
 refine Zsk ?_
 refine Znx ?_
 refine Zsq ?_
 refine Zsr ?_
 refine Za ?_
 refine Znn ?_
 refine Zbl ?_
 intro a fr
 replace hF := ((((hF.trNew hN12).loc hO16 (.inr g_b10)).trNew hN18).trNew hN24).trNew hN26
 replace H := (H.new hN24).new hN26
 replace hV := hV.new hN26
 replace O21 := O21.new hN26
 refine fx_loop (fun nM a wL => ∃ i : Nat, nM = 12 - i ∧ Fr (71, []) [(0, .pointer (some ⟨b, 0, none⟩)), (3, .pointer (some ⟨b1, 0, none⟩)), (4, .bool false), (10, .int .i64 ((i : Nat) : Int))] a ∧ Only (fun _ => False) w wL ∧ CacAt wL Fp b d ∧ View lnE wL A cap (allL d.n d.L) ∧ Blk wL b1 42 (rcE.arr (rav d A cap)) ∧ Blk wL b10 39 (lnE.arr (d.giv.getD ln0)) ∧ Own lnE wL A19 cap20 (allL d.n d.L) ∧ i ≤ 12) (n0 := _) ⟨0, rfl, fr.sub ⟨rfl, rfl, rfl, rfl, trivial⟩, hF, H, hV, B4, B13, O21, by omega⟩ ?_
 clear fr a
 rintro n28 a w27 ⟨i, rfl, fr, hF, H, hV, B4, B13, O21, hi⟩
 revert a
 refine Zsq ?_
 refine Zsr ?_
 refine Zm ?_
 refine Zv _ (fun _ fr => x_lss rfl (fr.ev rfl) rfl rfl) ?_
 refine Znn ?_
 refine Zcd (fun hc29 => ?_) (fun hc29 => ?_)
 ·have hc29 := of_decide_eq_true hc29
  refine Zsk ?_
  refine Znx ?_
  refine Zsq ?_
  refine Zbl ?_
  refine Zsq ?_
  refine Zhd (n := 9) (fun w => Blk w b1 42 (rcE.arr (rav d A cap)) ∧ True) ?_
  intro w30 hN31
  replace B4 := B4.new hN31
  have hS9 := And.intro B4 trivial
  refine Zhm 0 hS9 ?_
  refine Zhm 1 hS9 ?_
  refine Zht 2 rfl _ hS9 (fun _ fr _ _ => x_convert Try.underlying3 Try.underlying32 rfl (fr.ev rfl) (u32w (r := ((i : Nat) : Int)) rfl (by omega))) ?_
  refine ZhE 4 rcE ag42 hS9 (fun _ ⟨B4, _⟩ => (B4.rangeE rcE)) ?_
  refine Zhm 5 hS9 ?_
  refine Zht 6 rfl _ hS9 (fun _ fr _ _ => x_convert Try.underlying3 Try.underlying32 rfl (fr.ev rfl) (u32w (r := ((i : Nat) : Int)) rfl (by omega))) ?_
  refine Zh1 3 ?_
  replace H := H.new hN31
  refine Zk (args := #[.pointer (some ⟨b, 0, none⟩), .int .u32 ((i : Nat) : Int)]) cf34 (u_state H ((i : Nat) : Int) (by omega)) ?_
  rintro v w32 ⟨rfl, hN33⟩
  replace B4 := B4.new hN33
  refine Zhb ⟨B4, trivial⟩ ?_
  refine Zh1 7 ?_
  replace hV := (hV.new hN31).new hN33
  replace H := H.new hN33
  refine Zk cf60 (ur_state hV H.2 ((i : Nat) : Int)) ?_
  rintro v w34 ⟨rfl, hN35⟩
  replace B4 := B4.new hN35
  refine Zhb ⟨B4, trivial⟩ ?_
  have hS9 := And.intro B4 trivial
  refine Zht 8 rfl (.bool false) hS9 (fun _ fr _ _ => x_neq rfl (fr.ev rfl) (fr.ev rfl) (by simp)) ?_
  refine Zhn ?_
  refine Znx ?_
  refine Zcf ?_
  refine Zsk ?_
  refine Zb ?_
  refine Znx ?_
  refine Zrg ?_
  refine Zm ?_
  refine Zv _ (fun _ fr => x_add rfl (fr.ev rfl) rfl (i64w (r := ((i + 1 : Nat) : Int)) (by omega) (by omega))) ?_
  refine Za ?_
  intro a fr
  refine wpList_nil ?_
  refine fx_next ?_
  replace B13 := ((B13.new hN31).new hN33).new hN35
  replace O21 := ((O21.new hN31).new hN33).new hN35
  replace hF := ((hF.trNew hN31).trNew hN33).trNew hN35
  replace H := H.new hN35
  replace hV := hV.new hN35
  exact ⟨_, by omega, (i + 1), rfl, fr.sub ⟨rfl, rfl, rfl, rfl, trivial⟩, hF, H, hV, B4, B13, O21, by omega⟩
 ·have hc29 := of_decide_eq_false hc29
  refine Zex ?_
  refine Zxt ?_
  refine Zxt ?_
  refine Zxx ?_
  refine Znx ?_
  refine Zsr ?_
  refine Za ?_
  refine Znn ?_
  refine Zrt ?_
  refine Zre rfl [_] ⟨rfl, trivial⟩ ?_
  exact ⟨_, rfl, rfl, hF⟩
end Go.Proofs.Ytflnlmibkbojcaa
namespace Go.Proofs.Ytflnlmibkbojcaa
open Go.RowKit
def setB (b : B16) (j : Nat) (v : Int) (h : 0 ≤ v ∧ v < 256) : B16 := ⟨b.1.set j v, by rw [List.length_set]; exact b.2.1, fun a ha => by
  rcases List.mem_or_eq_of_mem_set ha with ha | rfl
  · exact b.2.2 a ha
  · exact h⟩
theorem msg_setb (m : Msg) (j : Nat) (v : Int) (h : 0 ≤ v ∧ v < 256) : (msgE.arr m).setIfInBounds (4 + j) (.int .u8 v) = msgE.arr { m with bs := setB m.bs j v h } := by
  apply Array.toList_inj.1
  rw [Array.toList_setIfInBounds, Enc.toList, Enc.toList]
  show (Msg.cells _).set (4 + j) _ = Msg.cells _
  rw [Nat.add_comm 4]
  simp [Msg.cells, setB, List.map_set]
def kd0 : CD := ⟨0, 1, 1, [], none, none⟩
def kd1 : CD := ⟨0, 1, 1, [], some (3, false), none⟩
def km1 : Msg := mkM 1 0 4 3
def km2 : Msg := { mkM 9 4 0 3 with bs := setB b16z 0 7 (by decide) }
def kl2 : Ln := mkL 3 2 (setB b16z 0 7 (by decide))
def kd2 : CD := ⟨0, 1, 1, [kl2], none, none⟩
def km3 : Msg := mkM 13 0 4 3
theorem known_1 : askF kd0 3 (by decide) false 0 = (kd1, [km1], 0) := by rfl
theorem known_2 : takeF kd1 km2 = (kd2, [km3], 0) := by rfl
theorem known_3 : readF kd2.L 48 4 = (7, 0) := by decide +kernel
section
variable {w : World} {Fp : Nat → Prop} {b : Nat}
theorem k_ask (H : CacAt w Fp b kd0) : Calls Try.prog 13 #[.pointer (some ⟨b, 0, none⟩), .int .u32 3, .bool false, .int .i64 0] w (Ret fun v w' => TakeU w Fp b (kd1, [km1], 0) v w') := by
  have := u_ask H 3 (by decide) false 0
  rwa [known_1] at this
theorem k_take (H : CacAt w Fp b kd1) : Calls Try.prog 14 #[.pointer (some ⟨b, 0, none⟩), .agg (msgE.arr km2)] w (Ret fun v w' => TakeU w Fp b (kd2, [km3], 0) v w') := by
  have := u_take H km2
  rwa [known_2] at this
theorem k_read (H : CacAt w Fp b kd2) : Calls Try.prog 17 #[.pointer (some ⟨b, 0, none⟩), .int .u32 48, .int .i64 4] w (Ret fun v w' => v = .tuple #[.int .u32 7, .int .i64 0] ∧ New w w') := by
  have := u_read H 48 (by decide) 4
  rwa [known_3] at this
end
end Go.Proofs.Ytflnlmibkbojcaa
namespace Go.Proofs.Ytflnlmibkbojcaa
open Go.RowKit
set_option maxRecDepth 100000 in
set_option maxHeartbeats 4000000 in
theorem known_c (w : World) : Calls Try.prog 11 #[] w (Ret fun v w' => v = .bool true ∧ New w w') := by
 have hF := Only.refl (fun _ => False) w
 refine Zen 75 Try.func11 ?_
 refine Zsr ?_
 refine Za ?_
 refine Znn ?_
 refine Zsr ?_
 refine Zk (args := #[.int .i64 0, .int .i64 1, .int .i64 1]) cf12 (u_new 0 1 1 (by omega) (by decide) _) ?_
 rintro v w5 ⟨b1, Fp2, rfl, H3, hb4, hN6⟩
 have gA_Fp2 := gA_newP hF hb4
 refine Zm ?_
 refine Zt ?_
 refine Zt ?_
 refine Za ?_
 refine Za ?_
 refine Znn ?_
 refine Zsr ?_
 refine Zm ?_
 refine Zk cf13 (k_ask H3) ?_
 rintro v w14 ⟨A10, cap11, rfl, O12, hA13, Fp7, H8, hN15, mv9⟩
 replace hF := hF.trNew hN6
 have gA_Fp7 := gA_movedP hF mv9 gA_Fp2
 have hdok_H3 := H3.2
 clear H3
 have ap2_Fp7_A10 := H8.msg_ap O12
 refine Zm ?_
 refine Zt ?_
 refine Zt ?_
 refine Za ?_
 refine Za ?_
 refine Znn ?_
 refine Zsr ?_
 refine Zv (.agg (msgE.arr (mkM 9 4 0 3))) (fun _ _ => x_build (cells := msgE.arr (mkM 9 4 0 3)) rfl (by kernel_rfl)) ?_
 refine Zna (z := zv3) (cs := msgE.arr msg0) (by kernel_rfl) fun b16 w17 hN18 B19 hb20 => ?_
 have ap_Fp7_b16 : ¬ Fp7 b16 := H8.apart hb20
 have ap_A10_b16 : Apart A10 b16 := O12.apart hb20
 replace hF := hF.locP hN15 gA_Fp2
 have g_b16 := Nat.le_trans hF.size hb20
 refine ZsS sz35 (msgE.all _) B19 (msgE.size _) (msgE.size _) fun w21 hO22 hBq => ?_
 replace B19 := hBq
 clear hBq
 refine Znn ?_
 refine Zsr ?_
 refine Zf fo35_4 ?_
 refine Zv (.pointer (some ⟨b16, 4 + 0, none⟩)) (fun _ fr => x_indexArr Try.underlying22 sz16 rfl (fr.ev rfl) rfl (by omega) (show 4 + 0 * 1 = 4 + 0 by omega)) ?_
 refine Zs1 (cs' := msgE.arr { (mkM 9 4 0 3) with bs := setB (mkM 9 4 0 3).bs 0 7 (by decide) }) sz5 B19 (by rw [msgE.size]; show _ < 20; omega) (msg_setb _ 0 _ (by decide)) fun w23 hO24 hBq => ?_
 replace B19 := hBq
 clear hBq
 refine Znn ?_
 refine Zsq ?_
 replace B19 : Blk w23 b16 35 (msgE.arr km2) := B19
 refine Zrg ?_
 refine Zm ?_
 refine ZE msgE ag35 (B19.rangeE msgE) ?_
 replace H8 := ((H8.new hN18).only hO22 (ne1P ap_Fp7_b16)).only hO24 (ne1P ap_Fp7_b16)
 refine Zk cf14 (k_take H8) ?_
 rintro v w32 ⟨A28, cap29, rfl, O30, hA31, Fp25, H26, hN33, mv27⟩
 have hdok_H8 := H8.2
 clear H8
 refine Zm ?_
 refine Zt ?_
 refine Zt ?_
 refine Za ?_
 refine Za ?_
 refine Znn ?_
 refine Zsr ?_
 refine Zm ?_
 refine Zk cf17 (k_read H26) ?_
 rintro v w34 ⟨rfl, hN35⟩
 refine Zm ?_
 refine Zt ?_
 refine Zt ?_
 refine Za ?_
 refine Za ?_
 refine Znn ?_
 refine Zsr ?_
 refine Zm ?_
 refine Zv (.bool true) (fun _ fr => x_eql rfl (fr.ev rfl) rfl rfl) ?_
 refine Zm ?_
 refine Zm ?_
 refine Zv (.bool true) (fun _ fr => x_eql rfl (fr.ev rfl) rfl rfl) ?_
 refine Zpt ?_
 refine Zm ?_
 refine Zm ?_
 refine Zv (.bool true) (fun _ fr => x_eql rfl (fr.ev rfl) rfl rfl) ?_
 refine Zpt ?_
 refine Zm ?_
 refine Zm ?_
 refine Zv (.bool true) (fun _ fr => x_eql rfl (fr.ev rfl) rfl rfl) ?_
 refine Zpt ?_
 refine Zm ?_
 refine Zm ?_
 refine Zv _ (fun _ fr => x_len Try.underlying29 rfl (fr.ev rfl)) ?_
 refine Zv (.bool true) (fun _ fr => x_eql rfl (fr.ev rfl) rfl rfl) ?_
 refine Zpt ?_
 refine Zm ?_
 refine Zm ?_
 replace O12 := ((((O12.new hN18).only hO22 (Apart.ne1 ap_A10_b16)).only hO24 (Apart.ne1 ap_A10_b16)).only hN33 (fun g h1 h2 => (symP ap2_Fp7_A10) g h1 h2)).new hN35
 obtain ⟨g36, o37, hA38⟩ := (O12.view).some_ (by first | omega | decide)
 refine Zv (.pointer (some ⟨g36, o37 + 0 * 20, none⟩)) (fun _ fr => x_indexV Try.underlying29 sz35 rfl (fr.ev rfl) hA38 rfl (by first | omega | decide) rfl) ?_
 refine Zf fo35_0 ?_
 refine Zd (v := .int .i64 1) pl33 (range_cell ((O12.view).elem hA38 0 msg0 (by first | omega | decide)) 0 rfl rfl) ?_
 refine Zv (.bool true) (fun _ fr => x_eql rfl (fr.ev rfl) rfl rfl) ?_
 refine Zpt ?_
 refine Zm ?_
 refine Zm ?_
 refine Zv _ (fun _ fr => x_len Try.underlying29 rfl (fr.ev rfl)) ?_
 refine Zv (.bool true) (fun _ fr => x_eql rfl (fr.ev rfl) rfl rfl) ?_
 refine Zpt ?_
 refine Zm ?_
 refine Zm ?_
 replace O30 := O30.new hN35
 obtain ⟨g39, o40, hA41⟩ := (O30.view).some_ (by first | omega | decide)
 refine Zv (.pointer (some ⟨g39, o40 + 0 * 20, none⟩)) (fun _ fr => x_indexV Try.underlying29 sz35 rfl (fr.ev rfl) hA41 rfl (by first | omega | decide) rfl) ?_
 refine Zf fo35_0 ?_
 refine Zd (v := .int .i64 13) pl33 (range_cell ((O30.view).elem hA41 0 msg0 (by first | omega | decide)) 0 rfl rfl) ?_
 refine Zv (.bool true) (fun _ fr => x_eql rfl (fr.ev rfl) rfl rfl) ?_
 refine Zpt ?_
 refine Zm ?_
 refine Zm ?_
 refine Zv (.bool true) (fun _ fr => x_eql rfl (fr.ev rfl) rfl rfl) ?_
 refine Zpt ?_
 refine Za ?_
 refine Znn ?_
 refine Zrt ?_
 refine Zre rfl [_] ⟨rfl, trivial⟩ ?_
 replace hF := ((((hF.trNew hN18).loc hO22 (.inr g_b16)).loc hO24 (.inr g_b16)).locP hN33 gA_Fp7).trNew hN35
 exact ⟨_, rfl, rfl, hF⟩
end Go.Proofs.Ytflnlmibkbojcaa
namespace Go.Proofs.Ytflnlmibkbojcaa
open Go.RowKit
theorem built_msg16 (k s d n : Int) (a0 a1 a2 a3 a4 a5 a6 a7 a8 a9 a10 a11 a12 a13 a14 a15 : Int) : Try.prog.built 35 [(0, .int .i64 k), (1, .int .i64 s), (2, .int .i64 d), (3, .int .u32 n), (4, .agg #[.int .u8 a0, .int .u8 a1, .int .u8 a2, .int .u8 a3, .int .u8 a4, .int .u8 a5, .int .u8 a6, .int .u8 a7, .int .u8 a8, .int .u8 a9, .int .u8 a10, .int .u8 a11, .int .u8 a12, .int .u8 a13, .int .u8 a14, .int .u8 a15])] = some #[.int .i64 k, .int .i64 s, .int .i64 d, .int .u32 n, .int .u8 a0, .int .u8 a1, .int .u8 a2, .int .u8 a3, .int .u8 a4, .int .u8 a5, .int .u8 a6, .int .u8 a7, .int .u8 a8, .int .u8 a9, .int .u8 a10, .int .u8 a11, .int .u8 a12, .int .u8 a13, .int .u8 a14, .int .u8 a15] := by kernel_rfl
set_option maxRecDepth 100000 in
theorem built_msg (k s d n : Int) (z : B16) (h : 0 ≤ n ∧ n < 4294967296) : Try.prog.built 35 [(0, .int .i64 k), (1, .int .i64 s), (2, .int .i64 d), (3, .int .u32 n), (4, .agg (bsE.arr z))] = some (msgE.arr (mkM k s d n z h)) := by
  obtain ⟨l, hl, hb⟩ := z
  match l, hl, hb with
  | [a0, a1, a2, a3, a4, a5, a6, a7, a8, a9, a10, a11, a12, a13, a14, a15], _, _ => exact built_msg16 k s d n a0 a1 a2 a3 a4 a5 a6 a7 a8 a9 a10 a11 a12 a13 a14 a15
theorem msg_setk (m : Msg) (k : Int) : (msgE.arr m).setIfInBounds 0 (.int .i64 k) = msgE.arr { m with kind := k } := by
  simp [Enc.arr, msgE, Msg.cells]
def bd0 : CD := ⟨2, 1, 1, [], none, none⟩
def bd1 : CD := ⟨2, 1, 1, [], some (1, false), none⟩
def bln (s : Int) (b : B16) : Ln := mkL 1 s b
def bd2 (s : Int) (b : B16) : CD := ⟨2, 1, 1, [bln s b], none, none⟩
theorem bytes_1 : askF bd0 1 (by decide) false 0 = (bd1, [mkM 1 2 4 1], 0) := by rfl
theorem bytes_2 (b : B16) : takeF bd1 (mkM 9 4 2 1 b) = (bd2 2 b, [mkM 13 2 4 1], 0) := by rfl
theorem bytes_3 (b : B16) : takeF bd1 { mkM 9 4 2 1 b with kind := 8 } = (bd2 1 b, [mkM 13 2 4 1], 0) := by rfl
theorem all_bd2 (s : Int) (b : B16) : allL 1 [bln s b] = [bln s b] := by rfl
theorem rav_bd2 (s : Int) (b : B16) (A : Option Addr) (c : Nat) : rav (bd2 s b) A c = RC.mk 2 1 1 A 1 c false 0 false false ln0 := by
  unfold rav rcv rdOf bd2
  dsimp only
  rw [all_bd2]
  rfl
section
variable {w : World} {Fp : Nat → Prop} {b : Nat}
theorem b_ask (H : CacAt w Fp b bd0) : Calls Try.prog 13 #[.pointer (some ⟨b, 0, none⟩), .int .u32 1, .bool false, .int .i64 0] w (Ret fun v w' => TakeU w Fp b (bd1, [mkM 1 2 4 1], 0) v w') := by
  have := u_ask H 1 (by decide) false 0
  rwa [bytes_1] at this
theorem b_take2 (z : B16) (H : CacAt w Fp b bd1) : Calls Try.prog 14 #[.pointer (some ⟨b, 0, none⟩), .agg (msgE.arr (mkM 9 4 2 1 z))] w (Ret fun v w' => TakeU w Fp b (bd2 2 z, [mkM 13 2 4 1], 0) v w') := by
  have := u_take H (mkM 9 4 2 1 z)
  rwa [bytes_2] at this
theorem b_take1 (z : B16) (H : CacAt w Fp b bd1) : Calls Try.prog 14 #[.pointer (some ⟨b, 0, none⟩), .agg (msgE.arr { mkM 9 4 2 1 z with kind := 8 })] w (Ret fun v w' => TakeU w Fp b (bd2 1 z, [mkM 13 2 4 1], 0) v w') := by
  have := u_take H { mkM 9 4 2 1 z with kind := 8 }
  rwa [bytes_3] at this
end
end Go.Proofs.Ytflnlmibkbojcaa
namespace Go.Proofs.Ytflnlmibkbojcaa
open Go.RowKit
set_option maxRecDepth 100000 in
set_option maxHeartbeats 4000000 in
theorem bytes_s (b : B16) {w : World} {Al : Option Addr} {cl : Nat} {l : List Stp} (hl : View stpE w Al cl l)  : Calls Try.prog 3 #[.agg (bsE.arr b), .bool true, .slice Al l.length cl] w (Ret fun v w' => v = .bool true ∧ New w w') := by
 have hll := hl.len
 unfold maxLen at hll
 have hF := Only.refl (fun _ => False) w
 refine Zen 136 Try.func3 ?_
 refine Zsr ?_
 refine Znb (cs := bsE.arr b) fun b1 w2 hN3 B4 hb5 => ?_
 refine Za ?_
 refine Znn ?_
 refine Zsq ?_
 refine Zsr ?_
 refine Zm ?_
 refine Zv _ (fun _ fr => x_len Try.underlying23 rfl (fr.ev rfl)) ?_
 refine Zv _ (fun _ fr => x_gtr rfl (fr.ev rfl) rfl rfl) ?_
 refine Znn ?_
 refine Zcd (fun hc6 => ?_) (fun hc6 => ?_)
 ·have hc6 := of_decide_eq_true hc6
  refine Zsr ?_
  refine Zk cf11 (known_c _) ?_
  rintro v w7 ⟨rfl, hN8⟩
  refine Za ?_
  refine Znn ?_
  refine Zrt ?_
  refine Zr1 ?_
  refine Zre rfl [_] ⟨rfl, trivial⟩ ?_
  replace hF := (hF.trNew hN3).trNew hN8
  exact ⟨_, rfl, rfl, hF⟩
 ·have hc6 := of_decide_eq_false hc6
  refine Zsk ?_
  refine Znx ?_
  refine Zsr ?_
  refine Zk (args := #[.int .i64 2, .int .i64 1, .int .i64 1]) cf12 (u_new 2 1 1 (by omega) (by decide) _) ?_
  rintro v w13 ⟨b9, Fp10, rfl, H11, hb12, hN14⟩
  replace hl := hl.new hN3
  have ap2_Al_Fp10 : ∀ k, inA Al k → Fp10 k → False := symP (new_apart2P hb12 fun _ hg => hl.lt hg)
  have ap_Fp10_b1 : ¬ Fp10 b1 := new_apartP hb12 B4.lt
  replace hF := hF.trNew hN3
  have gA_Fp10 := gA_newP hF hb12
  refine Zm ?_
  refine Zt ?_
  refine Zt ?_
  refine Za ?_
  refine Za ?_
  refine Znn ?_
  refine Zsr ?_
  refine Zm ?_
  refine Zk cf13 (b_ask H11) ?_
  rintro v w22 ⟨A18, cap19, rfl, O20, hA21, Fp15, H16, hN23, mv17⟩
  replace hl := hl.new hN14
  have ap2_Fp15_Al : ∀ k, Fp15 k → inA Al k → False := moved_apart2P mv17 (symP ap2_Al_Fp10) fun _ hg => hl.lt hg
  replace B4 := B4.new hN14
  have ap_Fp15_b1 : ¬ Fp15 b1 := moved_apartP mv17 ap_Fp10_b1 B4.lt
  replace hF := hF.trNew hN14
  have gA_Fp15 := gA_movedP hF mv17 gA_Fp10
  have hdok_H11 := H11.2
  clear H11
  have ap2_Fp15_A18 := H16.msg_ap O20
  refine Znn ?_
  refine Zsr ?_
  replace B4 := B4.only hN23 ap_Fp10_b1
  refine ZE bsE ag22 (B4.rangeE bsE) ?_
  refine Zv (.agg (msgE.arr (mkM 9 4 2 1 b))) (fun a fr => x_build (cells := msgE.arr (mkM 9 4 2 1 b)) rfl (by simp only [List.map_toArray, List.map_cons, List.map_nil, show a.eval (.tmp 30) = .agg (bsE.arr b) from fr.ev rfl]; exact built_msg _ _ _ _ _ _)) ?_
  refine Zna (z := zv3) (cs := msgE.arr msg0) (by kernel_rfl) fun b24 w25 hN26 B27 hb28 => ?_
  replace hl := hl.only hN23 (fun g h1 h2 => ap2_Al_Fp10 g h1 h2)
  have ap_Al_b24 : Apart Al b24 := hl.apart hb28
  have ne_b1_b24 : NE b1 b24 := NE.mk (Nat.lt_of_lt_of_le B4.lt hb28)
  have ap_Fp15_b24 : ¬ Fp15 b24 := H16.apart hb28
  have ap_A18_b24 : Apart A18 b24 := O20.apart hb28
  replace hF := hF.locP hN23 gA_Fp10
  have g_b24 := Nat.le_trans hF.size hb28
  refine ZsS sz35 (msgE.all _) B27 (msgE.size _) (msgE.size _) fun w29 hO30 hBq => ?_
  replace B27 := hBq
  clear hBq
  refine Znn ?_
  refine Zsr ?_
  refine Za ?_
  refine Znn ?_
  refine Zsq ?_
  refine Zsr ?_
  refine Zm ?_
  refine Znn ?_
  refine Zct ?_
  refine Zrg ?_
  refine Zf fo35_0 ?_
  refine Zs1 (cs' := msgE.arr { (mkM 9 4 2 1 b) with kind := 8 }) sz33 B27 (by rw [msgE.size]; decide) (msg_setk _ _) fun w31 hO32 hBq => ?_
  replace B27 := hBq
  clear hBq
  refine Za ?_
  refine Znn ?_
  refine Zsr ?_
  refine Zm ?_
  refine ZE msgE ag35 (B27.rangeE msgE) ?_
  replace H16 := ((H16.new hN26).only hO30 (ne1P ap_Fp15_b24)).only hO32 (ne1P ap_Fp15_b24)
  refine Zk cf14 (b_take1 b H16) ?_
  rintro v w40 ⟨A36, cap37, rfl, O38, hA39, Fp33, H34, hN41, mv35⟩
  replace hl := ((hl.new hN26).only hO30 (Apart.ne1 ap_Al_b24)).only hO32 (Apart.ne1 ap_Al_b24)
  have ap2_Fp33_Al : ∀ k, Fp33 k → inA Al k → False := moved_apart2P mv35 ap2_Fp15_Al fun _ hg => hl.lt hg
  replace B4 := ((B4.new hN26).only hO30 ne_b1_b24).only hO32 ne_b1_b24
  have ap_Fp33_b1 : ¬ Fp33 b1 := moved_apartP mv35 ap_Fp15_b1 B4.lt
  replace O20 := ((O20.new hN26).only hO30 (Apart.ne1 ap_A18_b24)).only hO32 (Apart.ne1 ap_A18_b24)
  have ap2_Fp33_A18 : ∀ k, Fp33 k → inA A18 k → False := moved_apart2P mv35 ap2_Fp15_A18 fun _ hg => O20.lt hg
  have ap_Fp33_b24 : ¬ Fp33 b24 := moved_apartP mv35 ap_Fp15_b24 B27.lt
  replace hF := ((hF.trNew hN26).loc hO30 (.inr g_b24)).loc hO32 (.inr g_b24)
  have gA_Fp33 := gA_movedP hF mv35 gA_Fp15
  have hdok_H16 := H16.2
  clear H16
  have ap2_Fp33_A36 := H34.msg_ap O38
  refine Znn ?_
  refine Zsr ?_
  refine Zm ?_
  replace B4 := B4.only hN41 ap_Fp15_b1
  refine ZE bsE ag22 (B4.rangeE bsE) ?_
  refine Zv (.agg (lnE.arr (mkL 1 1 b))) (fun a fr => x_build (cells := lnE.arr (mkL 1 1 b)) rfl (by simp only [List.map_toArray, List.map_cons, List.map_nil, show a.eval (.tmp 37) = .int .i64 1 from fr.ev rfl, show a.eval (.tmp 38) = .agg (bsE.arr b) from fr.ev rfl]; exact built_ln _ _ _ _)) ?_
  intro a fr
  refine fx_build1 (E := lnE) (p := (mkL 1 1 b)) elLn (by decide) fr rfl rfl (by decide) rfl (fr.ev rfl) ?_
  clear fr a
  intro A42 w43 hN44 O45 hA46
  have ap_A42_b1 : Apart A42 b1 := new_apart hA46 B4.lt
  replace O20 := O20.only hN41 (fun g h1 h2 => (symP ap2_Fp15_A18) g h1 h2)
  have ap2_A18_A42 : Apart2 A18 A42 := (new_apart2 hA46 fun _ hg => O20.lt hg).symm
  replace B27 := B27.only hN41 ap_Fp15_b24
  have ap_A42_b24 : Apart A42 b24 := new_apart hA46 B27.lt
  have ap2_Fp33_A42 : ∀ k, Fp33 k → inA A42 k → False := symP (new_apart2P hA46 fun _ hg => H34.lt hg)
  have ap2_A36_A42 : Apart2 A36 A42 := (new_apart2 hA46 fun _ hg => O38.lt hg).symm
  replace hF := hF.locP hN41 gA_Fp15
  have gA_A42 := gA_new hF hA46
  refine Zv (.agg (rcE.arr (RC.mk 2 1 1 A42 1 1 false 0 false false ln0))) (fun a fr => x_build (cells := rcE.arr (RC.mk 2 1 1 A42 1 1 false 0 false false ln0)) rfl (by simp only [List.map_toArray, List.map_cons, List.map_nil, show a.eval (.tmp 40) = .slice A42 1 1 from fr.ev rfl]; kernel_rfl)) ?_
  refine Zna (z := zv4) (cs := rcE.arr rc0) (by kernel_rfl) fun b47 w48 hN49 B50 hb51 => ?_
  replace hl := (hl.only hN41 (fun g h1 h2 => (symP ap2_Fp15_Al) g h1 h2)).new hN44
  have ap_Al_b47 : Apart Al b47 := hl.apart hb51
  replace B4 := B4.new hN44
  have ne_b1_b47 : NE b1 b47 := NE.mk (Nat.lt_of_lt_of_le B4.lt hb51)
  replace O20 := O20.new hN44
  have ap_A18_b47 : Apart A18 b47 := O20.apart hb51
  replace B27 := B27.new hN44
  have ne_b24_b47 : NE b24 b47 := NE.mk (Nat.lt_of_lt_of_le B27.lt hb51)
  replace H34 := H34.new hN44
  have ap_Fp33_b47 : ¬ Fp33 b47 := H34.apart hb51
  replace O38 := O38.new hN44
  have ap_A36_b47 : Apart A36 b47 := O38.apart hb51
  have ap_A42_b47 : Apart A42 b47 := O45.apart hb51
  replace hF := hF.trNew hN44
  have g_b47 := Nat.le_trans hF.size hb51
  refine ZsS sz42 (rcE.all _) B50 (rcE.size _) (rcE.size _) fun w52 hO53 hBq => ?_
  replace B50 := hBq
  clear hBq
  refine Znn ?_
  refine Zsq ?_
  refine Zsq ?_
  replace O45 := (O45.new hN49).only hO53 (Apart.ne1 ap_A42_b47)
  have hVz : View lnE w52 A42 1 (allL (bd2 1 b).n (bd2 1 b).L) := (show View lnE w52 A42 1 (allL 1 [bln 1 b]) by rw [all_bd2]; exact O45.view)
  replace B50 : Blk w52 b47 42 (rcE.arr (rav (bd2 1 b) A42 1)) := (by rw [rav_bd2]; exact B50)
  refine Zrg ?_
  refine Za ?_
  refine Znn ?_
  refine Zbl ?_
  intro a fr
  replace hl := (hl.new hN49).only hO53 (Apart.ne1 ap_Al_b47)
  replace B4 := (B4.new hN49).only hO53 ne_b1_b47
  replace O20 := (O20.new hN49).only hO53 (Apart.ne1 ap_A18_b47)
  replace B27 := (B27.new hN49).only hO53 ne_b24_b47
  replace H34 := (H34.new hN49).only hO53 (ne1P ap_Fp33_b47)
  replace O38 := (O38.new hN49).only hO53 (Apart.ne1 ap_A36_b47)
  replace hF := (hF.trNew hN49).loc hO53 (.inr g_b47)
  refine fx_loop (fun nM a wL => ∃ k : Nat, ∃ do_ : CD, ∃ Fpo : Nat → Prop, ∃ Ao : Option Addr, ∃ co : Nat, nM = l.length - k ∧ Fr (136, []) [(1, .bool true), (2, .slice Al l.length cl), (3, .pointer (some ⟨b1, 0, none⟩)), (7, .pointer (some ⟨b9, 0, none⟩)), (9, .pointer (some ⟨b24, 0, none⟩)), (11, .pointer (some ⟨b47, 0, none⟩)), (12, .int .i64 ((k : Nat) : Int))] a ∧ Only (fun _ => False) w wL ∧ View stpE wL Al cl l ∧ Blk wL b1 22 (bsE.arr b) ∧ Own msgE wL A18 cap19 ([(mkM 1 2 4 1)]) ∧ Blk wL b24 35 (msgE.arr { (mkM 9 4 2 1 b) with kind := 8 }) ∧ Own msgE wL A36 cap37 ([(mkM 13 2 4 1)]) ∧ CacAt wL Fpo b9 do_ ∧ View lnE wL Ao co (allL do_.n do_.L) ∧ Blk wL b47 42 (rcE.arr (rav do_ Ao co)) ∧ k ≤ l.length ∧ (∀ k, inA Al k → Fpo k → False) ∧ (¬ Fpo b1) ∧ (Apart Ao b1) ∧ (∀ k, inA A18 k → Fpo k → False) ∧ (Apart2 A18 Ao) ∧ (¬ Fpo b24) ∧ (Apart Ao b24) ∧ (∀ k, inA A36 k → Fpo k → False) ∧ (Apart2 A36 Ao) ∧ (∀ k, Fpo k → inA Ao k → False) ∧ (¬ Fpo b47) ∧ (Apart Ao b47) ∧ (∀ g, Fpo g → (fun _ => False) g ∨ w.heap.size ≤ g) ∧ (∀ g, inA Ao g → (fun _ => False) g ∨ w.heap.size ≤ g)) (n0 := _) ⟨0, (bd2 1 b), Fp33, A42, 1, rfl, fr.sub ⟨rfl, rfl, rfl, rfl, rfl, rfl, rfl, trivial⟩, hF, hl, B4, O20, B27, O38, H34, hVz, B50, by omega, (symP ap2_Fp33_Al), ap_Fp33_b1, ap_A42_b1, (symP ap2_Fp33_A18), ap2_A18_A42, ap_Fp33_b24, ap_A42_b24, (symP ap2_Fp33_A36), ap2_A36_A42, ap2_Fp33_A42, ap_Fp33_b47, ap_A42_b47, gA_Fp33, gA_A42⟩ ?_
  clear fr a
  rintro n55 a w54 ⟨k, do_, Fpo, Ao, co, rfl, fr, hF, hl, B4, O20, B27, O38, Ho, hVo, B50, hk, ap2_Al_Fpo, ap_Fpo_b1, ap_Ao_b1, ap2_A18_Fpo, ap2_A18_Ao, ap_Fpo_b24, ap_Ao_b24, ap2_A36_Fpo, ap2_A36_Ao, ap2_Fpo_Ao, ap_Fpo_b47, ap_Ao_b47, gA_Fpo, gA_Ao⟩
  revert a
  refine Zsq ?_
  refine Zsr ?_
  refine Zm ?_
  refine Zm ?_
  refine Zv _ (fun _ fr => x_len Try.underlying23 rfl (fr.ev rfl)) ?_
  refine Zv _ (fun _ fr => x_lss rfl (fr.ev rfl) (fr.ev rfl) rfl) ?_
  refine Znn ?_
  refine Zcd (fun hc56 => ?_) (fun hc56 => ?_)
  ·have hc56 := of_decide_eq_true hc56
   refine Zsk ?_
   refine Znx ?_
   refine Zsq ?_
   refine Zbl ?_
   refine Zsq ?_
   refine ZhT (n := 17) 17 (fun w => View stpE w Al cl l ∧ Blk w b47 42 (rcE.arr (rav do_ Ao co)) ∧ True) ?_
   intro w57 hN58
   replace hl := hl.new hN58
   replace B50 := B50.new hN58
   have hS9 := And.intro hl (And.intro B50 trivial)
   refine Zhm 0 hS9 ?_
   refine Zhm 1 hS9 ?_
   refine Zhm 2 hS9 ?_
   obtain ⟨g59, o60, hA61⟩ := (hl).some_ (by first | omega | decide)
   have hS9 := And.intro hl (And.intro B50 trivial)
   refine Zht 3 rfl (.pointer (some ⟨g59, o60 + k * 27, none⟩)) hS9 (fun _ fr _ _ => x_indexV Try.underlying23 sz45 rfl (fr.ev rfl) hA61 (fr.ev rfl) (by first | omega | decide) rfl) ?_
   refine Zhf 4 fo45_4 hS9 ?_
   refine Zhl (v := .int .u32 ((l.getD k stp0).addr)) 5 pl32 hS9 (fun _ ⟨hl, _⟩ => (range_cell ((hl).elem hA61 k stp0 (by first | omega | decide)) 4 rfl rfl)) ?_
   refine Zhm 6 hS9 ?_
   refine Zhm 7 hS9 ?_
   refine Zht 8 rfl (.pointer (some ⟨g59, o60 + k * 27, none⟩)) hS9 (fun _ fr _ _ => x_indexV Try.underlying23 sz45 rfl (fr.ev rfl) hA61 (fr.ev rfl) (by first | omega | decide) rfl) ?_
   refine Zhf 9 fo45_2 hS9 ?_
   refine Zhl (v := .int .i64 ((l.getD k stp0).width)) 10 pl3 hS9 (fun _ ⟨hl, _⟩ => (range_cell ((hl).elem hA61 k stp0 (by first | omega | decide)) 2 rfl rfl)) ?_
   refine Zhm 11 hS9 ?_
   refine Zhm 12 hS9 ?_
   refine Zht 13 rfl (.pointer (some ⟨g59, o60 + k * 27, none⟩)) hS9 (fun _ fr _ _ => x_indexV Try.underlying23 sz45 rfl (fr.ev rfl) hA61 (fr.ev rfl) (by first | omega | decide) rfl) ?_
   refine Zhf 14 fo45_5 hS9 ?_
   refine Zhl (v := .int .u32 ((l.getD k stp0).value)) 15 pl32 hS9 (fun _ ⟨hl, _⟩ => (range_cell ((hl).elem hA61 k stp0 (by first | omega | decide)) 5 rfl rfl)) ?_
   refine Zh1 16 ?_
   replace Ho := Ho.new hN58
   refine Zk cf15 (u_write Ho ((l.getD k stp0).addr) (l.getD k stp0).ha ((l.getD k stp0).width) ((l.getD k stp0).value)) ?_
   rintro v w65 ⟨rfl, Fp62, H63, hN66, mv64⟩
   have ap2_Fp62_Al : ∀ k, Fp62 k → inA Al k → False := moved_apart2P mv64 (symP ap2_Al_Fpo) fun _ hg => hl.lt hg
   replace B4 := B4.new hN58
   have ap_Fp62_b1 : ¬ Fp62 b1 := moved_apartP mv64 ap_Fpo_b1 B4.lt
   replace O20 := O20.new hN58
   have ap2_Fp62_A18 : ∀ k, Fp62 k → inA A18 k → False := moved_apart2P mv64 (symP ap2_A18_Fpo) fun _ hg => O20.lt hg
   replace B27 := B27.new hN58
   have ap_Fp62_b24 : ¬ Fp62 b24 := moved_apartP mv64 ap_Fpo_b24 B27.lt
   replace O38 := O38.new hN58
   have ap2_Fp62_A36 : ∀ k, Fp62 k → inA A36 k → False := moved_apart2P mv64 (symP ap2_A36_Fpo) fun _ hg => O38.lt hg
   replace hVo := hVo.new hN58
   have ap2_Fp62_Ao : ∀ k, Fp62 k → inA Ao k → False := moved_apart2P mv64 ap2_Fpo_Ao fun _ hg => hVo.lt hg
   have ap_Fp62_b47 : ¬ Fp62 b47 := moved_apartP mv64 ap_Fpo_b47 B50.lt
   replace hF := hF.trNew hN58
   have gA_Fp62 := gA_movedP hF mv64 gA_Fpo
   have hdok_Ho := Ho.2
   clear Ho
   replace hl := hl.only hN66 (fun g h1 h2 => ap2_Al_Fpo g h1 h2)
   replace B50 := B50.only hN66 ap_Fpo_b47
   refine Zhb ⟨hl, B50, trivial⟩ ?_
   refine Zhn ?_
   refine Ztl ?_
   refine Za ?_
   refine Znn ?_
   refine Zsq ?_
   refine ZhT (n := 22) 22 (fun w => View stpE w Al cl l ∧ Blk w b47 42 (rcE.arr (rav do_ Ao co)) ∧ True) ?_
   intro w67 hN68
   replace hl := hl.new hN68
   replace B50 := B50.new hN68
   have hS9 := And.intro hl (And.intro B50 trivial)
   refine ZhE 0 rcE ag42 hS9 (fun _ ⟨_, B50, _⟩ => (B50.rangeE rcE)) ?_
   refine Zhm 1 hS9 ?_
   refine Zhm 2 hS9 ?_
   refine Zht 3 rfl (.pointer (some ⟨g59, o60 + k * 27, none⟩)) hS9 (fun _ fr _ _ => x_indexV Try.underlying23 sz45 rfl (fr.ev rfl) hA61 (fr.ev rfl) (by first | omega | decide) rfl) ?_
   refine Zhf 4 fo45_4 hS9 ?_
   refine Zhl (v := .int .u32 ((l.getD k stp0).addr)) 5 pl32 hS9 (fun _ ⟨hl, _⟩ => (range_cell ((hl).elem hA61 k stp0 (by first | omega | decide)) 4 rfl rfl)) ?_
   refine Zhm 6 hS9 ?_
   refine Zhm 7 hS9 ?_
   refine Zht 8 rfl (.pointer (some ⟨g59, o60 + k * 27, none⟩)) hS9 (fun _ fr _ _ => x_indexV Try.underlying23 sz45 rfl (fr.ev rfl) hA61 (fr.ev rfl) (by first | omega | decide) rfl) ?_
   refine Zhf 9 fo45_2 hS9 ?_
   refine Zhl (v := .int .i64 ((l.getD k stp0).width)) 10 pl3 hS9 (fun _ ⟨hl, _⟩ => (range_cell ((hl).elem hA61 k stp0 (by first | omega | decide)) 2 rfl rfl)) ?_
   refine Zhm 11 hS9 ?_
   refine Zhm 12 hS9 ?_
   refine Zht 13 rfl (.pointer (some ⟨g59, o60 + k * 27, none⟩)) hS9 (fun _ fr _ _ => x_indexV Try.underlying23 sz45 rfl (fr.ev rfl) hA61 (fr.ev rfl) (by first | omega | decide) rfl) ?_
   refine Zhf 14 fo45_5 hS9 ?_
   refine Zhl (v := .int .u32 ((l.getD k stp0).value)) 15 pl32 hS9 (fun _ ⟨hl, _⟩ => (range_cell ((hl).elem hA61 k stp0 (by first | omega | decide)) 5 rfl rfl)) ?_
   refine Zh2 16 20 ?_ ?_
   ·replace hVo := (hVo.only hN66 (fun g h1 h2 => (symP ap2_Fpo_Ao) g h1 h2)).new hN68
    refine Zk cf16 (ur_put hVo hdok_Ho ((l.getD k stp0).addr) (l.getD k stp0).ha ((l.getD k stp0).width) ((l.getD k stp0).value) (l.getD k stp0).hv) ?_
    rintro v w77 ⟨A69, cap70, rfl, V71, mv72, hN78⟩
    replace B4 := (B4.only hN66 ap_Fpo_b1).new hN68
    have ap_A69_b1 : Apart A69 b1 := moved_apart mv72 ap_Ao_b1 B4.lt
    replace O20 := (O20.only hN66 (fun g h1 h2 => ap2_A18_Fpo g h1 h2)).new hN68
    have ap2_A69_A18 : Apart2 A69 A18 := moved_apart2 mv72 ap2_A18_Ao.symm fun _ hg => O20.lt hg
    replace B27 := (B27.only hN66 ap_Fpo_b24).new hN68
    have ap_A69_b24 : Apart A69 b24 := moved_apart mv72 ap_Ao_b24 B27.lt
    replace O38 := (O38.only hN66 (fun g h1 h2 => ap2_A36_Fpo g h1 h2)).new hN68
    have ap2_A69_A36 : Apart2 A69 A36 := moved_apart2 mv72 ap2_A36_Ao.symm fun _ hg => O38.lt hg
    have ap_A69_b47 : Apart A69 b47 := moved_apart mv72 ap_Ao_b47 B50.lt
    replace H63 := H63.new hN68
    have ap2_A69_Fp62 : ∀ k, inA A69 k → Fp62 k → False := moved_apart2P mv72 (symP ap2_Fp62_Ao) fun _ hg => H63.lt hg
    replace hF := (hF.locP hN66 gA_Fpo).trNew hN68
    have gA_A69 := gA_moved hF mv72 gA_Ao
    replace hl := hl.new hN78
    replace B50 := B50.new hN78
    refine Zhb ⟨hl, B50, trivial⟩ ?_
    have hS9 := And.intro hl (And.intro B50 trivial)
    refine Zhm 17 hS9 ?_
    refine Zhx 18 hS9 ?_
    refine Zhx 19 hS9 ?_
    refine Zh1 20 ?_
    refine Zna (z := zv4) (cs := rcE.arr rc0) (by kernel_rfl) fun b79 w80 hN81 B82 hb83 => ?_
    have ap_Al_b79 : Apart Al b79 := hl.apart hb83
    replace B4 := B4.new hN78
    have ne_b1_b79 : NE b1 b79 := NE.mk (Nat.lt_of_lt_of_le B4.lt hb83)
    replace O20 := O20.new hN78
    have ap_A18_b79 : Apart A18 b79 := O20.apart hb83
    replace B27 := B27.new hN78
    have ne_b24_b79 : NE b24 b79 := NE.mk (Nat.lt_of_lt_of_le B27.lt hb83)
    replace O38 := O38.new hN78
    have ap_A36_b79 : Apart A36 b79 := O38.apart hb83
    have ne_b47_b79 : NE b47 b79 := NE.mk (Nat.lt_of_lt_of_le B50.lt hb83)
    replace H63 := H63.new hN78
    have ap_Fp62_b79 : ¬ Fp62 b79 := H63.apart hb83
    have ap_A69_b79 : Apart A69 b79 := V71.apart hb83
    replace hF := hF.trNew hN78
    have g_b79 := Nat.le_trans hF.size hb83
    replace hl := hl.new hN81
    replace B50 := B50.new hN81
    refine Zhb ⟨hl, B50, trivial⟩ ?_
    refine Zh1 21 ?_
    refine ZsS sz42 (rcE.all _) B82 (rcE.size _) (rcE.size _) fun w84 hO85 hBq => ?_
    replace B82 := hBq
    clear hBq
    replace hl := hl.only hO85 (Apart.ne1 ap_Al_b79)
    replace B50 := B50.only hO85 ne_b47_b79
    refine Zhb ⟨hl, B50, trivial⟩ ?_
    refine Zhn ?_
    refine Ztl ?_
    refine Za ?_
    refine Znn ?_
    refine Zsq ?_
    refine ZhT (n := 16) 16 (fun w => View stpE w Al cl l ∧ Blk w b79 42 (rcE.arr (rav ((writeF do_ ((l.getD k stp0).addr) ((l.getD k stp0).width) ((l.getD k stp0).value)).1) A69 cap70)) ∧ True) ?_
    intro w86 hN87
    replace hl := hl.new hN87
    replace B82 := B82.new hN87
    have hS9 := And.intro hl (And.intro B82 trivial)
    refine Zhm 0 hS9 ?_
    refine Zhm 1 hS9 ?_
    refine Zhm 2 hS9 ?_
    refine Zht 3 rfl (.pointer (some ⟨g59, o60 + k * 27, none⟩)) hS9 (fun _ fr _ _ => x_indexV Try.underlying23 sz45 rfl (fr.ev rfl) hA61 (fr.ev rfl) (by first | omega | decide) rfl) ?_
    refine Zhf 4 fo45_4 hS9 ?_
    refine Zhl (v := .int .u32 ((l.getD k stp0).addr)) 5 pl32 hS9 (fun _ ⟨hl, _⟩ => (range_cell ((hl).elem hA61 k stp0 (by first | omega | decide)) 4 rfl rfl)) ?_
    refine Zhm 6 hS9 ?_
    refine Zhm 7 hS9 ?_
    refine Zht 8 rfl (.pointer (some ⟨g59, o60 + k * 27, none⟩)) hS9 (fun _ fr _ _ => x_indexV Try.underlying23 sz45 rfl (fr.ev rfl) hA61 (fr.ev rfl) (by first | omega | decide) rfl) ?_
    refine Zhf 9 fo45_2 hS9 ?_
    refine Zhl (v := .int .i64 ((l.getD k stp0).width)) 10 pl3 hS9 (fun _ ⟨hl, _⟩ => (range_cell ((hl).elem hA61 k stp0 (by first | omega | decide)) 2 rfl rfl)) ?_
    refine Zh1 11 ?_
    replace H63 := ((H63.new hN81).only hO85 (ne1P ap_Fp62_b79)).new hN87
    refine Zk cf17 (u_read H63 ((l.getD k stp0).addr) (l.getD k stp0).ha ((l.getD k stp0).width)) ?_
    rintro v w88 ⟨rfl, hN89⟩
    replace hl := hl.new hN89
    replace B82 := B82.new hN89
    refine Zhb ⟨hl, B82, trivial⟩ ?_
    have hS9 := And.intro hl (And.intro B82 trivial)
    refine Zhm 12 hS9 ?_
    refine Zhx 13 hS9 ?_
    refine Zhx 14 hS9 ?_
    refine Zha 15 hS9 ?_
    refine Zhn ?_
    refine Ztl ?_
    refine Za ?_
    refine Znn ?_
    refine Zsq ?_
    refine ZhT (n := 16) 16 (fun w => View stpE w Al cl l ∧ Blk w b79 42 (rcE.arr (rav ((writeF do_ ((l.getD k stp0).addr) ((l.getD k stp0).width) ((l.getD k stp0).value)).1) A69 cap70)) ∧ True) ?_
    intro w90 hN91
    replace hl := hl.new hN91
    replace B82 := B82.new hN91
    have hS9 := And.intro hl (And.intro B82 trivial)
    refine ZhE 0 rcE ag42 hS9 (fun _ ⟨_, B82, _⟩ => (B82.rangeE rcE)) ?_
    refine Zhm 1 hS9 ?_
    refine Zhm 2 hS9 ?_
    refine Zht 3 rfl (.pointer (some ⟨g59, o60 + k * 27, none⟩)) hS9 (fun _ fr _ _ => x_indexV Try.underlying23 sz45 rfl (fr.ev rfl) hA61 (fr.ev rfl) (by first | omega | decide) rfl) ?_
    refine Zhf 4 fo45_4 hS9 ?_
    refine Zhl (v := .int .u32 ((l.getD k stp0).addr)) 5 pl32 hS9 (fun _ ⟨hl, _⟩ => (range_cell ((hl).elem hA61 k stp0 (by first | omega | decide)) 4 rfl rfl)) ?_
    refine Zhm 6 hS9 ?_
    refine Zhm 7 hS9 ?_
    refine Zht 8 rfl (.pointer (some ⟨g59, o60 + k * 27, none⟩)) hS9 (fun _ fr _ _ => x_indexV Try.underlying23 sz45 rfl (fr.ev rfl) hA61 (fr.ev rfl) (by first | omega | decide) rfl) ?_
    refine Zhf 9 fo45_2 hS9 ?_
    refine Zhl (v := .int .i64 ((l.getD k stp0).width)) 10 pl3 hS9 (fun _ ⟨hl, _⟩ => (range_cell ((hl).elem hA61 k stp0 (by first | omega | decide)) 2 rfl rfl)) ?_
    refine Zh1 11 ?_
    replace V71 := ((((V71.new hN81).only hO85 (Apart.ne1 ap_A69_b79)).new hN87).new hN89).new hN91
    replace H63 := (H63.new hN89).new hN91
    refine Zk cf18 (ur_read V71 H63.2 ((l.getD k stp0).addr) (l.getD k stp0).ha ((l.getD k stp0).width)) ?_
    rintro v w92 ⟨rfl, hN93⟩
    replace hl := hl.new hN93
    replace B82 := B82.new hN93
    refine Zhb ⟨hl, B82, trivial⟩ ?_
    have hS9 := And.intro hl (And.intro B82 trivial)
    refine Zhm 12 hS9 ?_
    refine Zhx 13 hS9 ?_
    refine Zhx 14 hS9 ?_
    refine Zha 15 hS9 ?_
    refine Zhn ?_
    refine Ztl ?_
    refine Za ?_
    refine Znn ?_
    refine Zsq ?_
    refine Zsr ?_
    refine Zm ?_
    refine Zm ?_
    refine Zv (.bool false) (fun _ fr => x_neq rfl (fr.ev rfl) (fr.ev rfl) (by simp)) ?_
    refine Zm ?_
    refine Zm ?_
    refine Zm ?_
    refine Zv (.bool false) (fun _ fr => x_neq rfl (fr.ev rfl) (fr.ev rfl) (by simp)) ?_
    refine Zpf ?_
    refine Zm ?_
    refine Zm ?_
    refine Zm ?_
    refine Zv (.bool false) (fun _ fr => x_neq rfl (fr.ev rfl) (fr.ev rfl) (by simp)) ?_
    refine Zpf ?_
    refine Zm ?_
    refine Zm ?_
    refine ZE rcE ag42 (B82.rangeE rcE) ?_
    replace H63 := H63.new hN93
    replace V71 := V71.new hN93
    refine Zk cf19 (same_c H63 V71 (symP ap2_A69_Fp62)) ?_
    rintro v w94 ⟨rfl, hN95⟩
    refine Zv (.bool false) (fun _ fr => x_not rfl (fr.ev rfl) rfl) ?_
    refine Zpf ?_
    refine Znn ?_
    refine Zcf ?_
    refine Zsk ?_
    refine Znx ?_
    refine Zrg ?_
    replace B82 := B82.new hN95
    refine ZE rcE ag42 (B82.rangeE rcE) ?_
    replace B50 := ((((B50.new hN87).new hN89).new hN91).new hN93).new hN95
    refine ZsS sz42 (rcE.all _) B50 (rcE.size _) (rcE.size _) fun w96 hO97 hBq => ?_
    replace B50 := hBq
    clear hBq
    refine Znl ?_
    refine Zb ?_
    refine Znx ?_
    refine Zrg ?_
    refine Zm ?_
    refine Zv _ (fun _ fr => x_add rfl (fr.ev rfl) rfl (i64w (r := ((k + 1 : Nat) : Int)) (by omega) (by omega))) ?_
    refine Za ?_
    intro a fr
    refine wpList_nil ?_
    refine fx_next ?_
    replace B4 := (((((((B4.new hN81).only hO85 ne_b1_b79).new hN87).new hN89).new hN91).new hN93).new hN95).only hO97 ne_b1_b47
    replace O20 := (((((((O20.new hN81).only hO85 (Apart.ne1 ap_A18_b79)).new hN87).new hN89).new hN91).new hN93).new hN95).only hO97 (Apart.ne1 ap_A18_b47)
    replace B27 := (((((((B27.new hN81).only hO85 ne_b24_b79).new hN87).new hN89).new hN91).new hN93).new hN95).only hO97 ne_b24_b47
    replace O38 := (((((((O38.new hN81).only hO85 (Apart.ne1 ap_A36_b79)).new hN87).new hN89).new hN91).new hN93).new hN95).only hO97 (Apart.ne1 ap_A36_b47)
    replace hF := (((((((hF.trNew hN81).loc hO85 (.inr g_b79)).trNew hN87).trNew hN89).trNew hN91).trNew hN93).trNew hN95).loc hO97 (.inr g_b47)
    replace hl := (hl.new hN95).only hO97 (Apart.ne1 ap_Al_b47)
    replace H63 := (H63.new hN95).only hO97 (ne1P ap_Fp62_b47)
    replace V71 := (V71.new hN95).only hO97 (Apart.ne1 ap_A69_b47)
    exact ⟨_, by omega, (k + 1), (writeF do_ ((l.getD k stp0).addr) ((l.getD k stp0).width) ((l.getD k stp0).value)).1, Fp62, A69, cap70, rfl, fr.sub ⟨rfl, rfl, rfl, rfl, rfl, rfl, rfl, trivial⟩, hF, hl, B4, O20, B27, O38, H63, V71, B50, by omega, (symP ap2_Fp62_Al), ap_Fp62_b1, ap_A69_b1, (symP ap2_Fp62_A18), ap2_A69_A18.symm, ap_Fp62_b24, ap_A69_b24, (symP ap2_Fp62_A36), ap2_A69_A36.symm, (symP ap2_A69_Fp62), ap_Fp62_b47, ap_A69_b47, gA_Fp62, gA_A69⟩
   ·refine Zna (z := zv4) (cs := rcE.arr rc0) (by kernel_rfl) fun b98 w99 hN100 B101 hb102 => ?_
    have ap_Al_b98 : Apart Al b98 := hl.apart hb102
    replace B4 := (B4.only hN66 ap_Fpo_b1).new hN68
    have ne_b1_b98 : NE b1 b98 := NE.mk (Nat.lt_of_lt_of_le B4.lt hb102)
    replace O20 := (O20.only hN66 (fun g h1 h2 => ap2_A18_Fpo g h1 h2)).new hN68
    have ap_A18_b98 : Apart A18 b98 := O20.apart hb102
    replace B27 := (B27.only hN66 ap_Fpo_b24).new hN68
    have ne_b24_b98 : NE b24 b98 := NE.mk (Nat.lt_of_lt_of_le B27.lt hb102)
    replace O38 := (O38.only hN66 (fun g h1 h2 => ap2_A36_Fpo g h1 h2)).new hN68
    have ap_A36_b98 : Apart A36 b98 := O38.apart hb102
    replace hVo := (hVo.only hN66 (fun g h1 h2 => (symP ap2_Fpo_Ao) g h1 h2)).new hN68
    have ap_Ao_b98 : Apart Ao b98 := hVo.apart hb102
    have ne_b47_b98 : NE b47 b98 := NE.mk (Nat.lt_of_lt_of_le B50.lt hb102)
    replace H63 := H63.new hN68
    have ap_Fp62_b98 : ¬ Fp62 b98 := H63.apart hb102
    replace hF := (hF.locP hN66 gA_Fpo).trNew hN68
    have g_b98 := Nat.le_trans hF.size hb102
    replace hl := hl.new hN100
    replace B50 := B50.new hN100
    refine Zhb ⟨hl, B50, trivial⟩ ?_
    refine Zh1 16 ?_
    replace hVo := hVo.new hN100
    refine Zk cf16 (ur_put hVo hdok_Ho ((l.getD k stp0).addr) (l.getD k stp0).ha ((l.getD k stp0).width) ((l.getD k stp0).value) (l.getD k stp0).hv) ?_
    rintro v w111 ⟨A103, cap104, rfl, V105, mv106, hN112⟩
    replace B4 := B4.new hN100
    have ap_A103_b1 : Apart A103 b1 := moved_apart mv106 ap_Ao_b1 B4.lt
    replace O20 := O20.new hN100
    have ap2_A103_A18 : Apart2 A103 A18 := moved_apart2 mv106 ap2_A18_Ao.symm fun _ hg => O20.lt hg
    replace B27 := B27.new hN100
    have ap_A103_b24 : Apart A103 b24 := moved_apart mv106 ap_Ao_b24 B27.lt
    replace O38 := O38.new hN100
    have ap2_A103_A36 : Apart2 A103 A36 := moved_apart2 mv106 ap2_A36_Ao.symm fun _ hg => O38.lt hg
    have ap_A103_b47 : Apart A103 b47 := moved_apart mv106 ap_Ao_b47 B50.lt
    replace H63 := H63.new hN100
    have ap2_A103_Fp62 : ∀ k, inA A103 k → Fp62 k → False := moved_apart2P mv106 (symP ap2_Fp62_Ao) fun _ hg => H63.lt hg
    have ap_A103_b98 : Apart A103 b98 := moved_apart mv106 ap_Ao_b98 B101.lt
    replace hF := hF.trNew hN100
    have gA_A103 := gA_moved hF mv106 gA_Ao
    replace hl := hl.new hN112
    replace B50 := B50.new hN112
    refine Zhb ⟨hl, B50, trivial⟩ ?_
    have hS9 := And.intro hl (And.intro B50 trivial)
    refine Zhm 17 hS9 ?_
    refine Zhx 18 hS9 ?_
    refine Zhx 19 hS9 ?_
    refine Zh1 21 ?_
    replace B101 := B101.new hN112
    refine ZsS sz42 (rcE.all _) B101 (rcE.size _) (rcE.size _) fun w113 hO114 hBq => ?_
    replace B101 := hBq
    clear hBq
    replace hl := hl.only hO114 (Apart.ne1 ap_Al_b98)
    replace B50 := B50.only hO114 ne_b47_b98
    refine Zhb ⟨hl, B50, trivial⟩ ?_
    refine Zhn ?_
    refine Ztl ?_
    refine Za ?_
    refine Znn ?_
    refine Zsq ?_
    refine ZhT (n := 16) 16 (fun w => View stpE w Al cl l ∧ Blk w b98 42 (rcE.arr (rav ((writeF do_ ((l.getD k stp0).addr) ((l.getD k stp0).width) ((l.getD k stp0).value)).1) A103 cap104)) ∧ True) ?_
    intro w115 hN116
    replace hl := hl.new hN116
    replace B101 := B101.new hN116
    have hS9 := And.intro hl (And.intro B101 trivial)
    refine Zhm 0 hS9 ?_
    refine Zhm 1 hS9 ?_
    refine Zhm 2 hS9 ?_
    refine Zht 3 rfl (.pointer (some ⟨g59, o60 + k * 27, none⟩)) hS9 (fun _ fr _ _ => x_indexV Try.underlying23 sz45 rfl (fr.ev rfl) hA61 (fr.ev rfl) (by first | omega | decide) rfl) ?_
    refine Zhf 4 fo45_4 hS9 ?_
    refine Zhl (v := .int .u32 ((l.getD k stp0).addr)) 5 pl32 hS9 (fun _ ⟨hl, _⟩ => (range_cell ((hl).elem hA61 k stp0 (by first | omega | decide)) 4 rfl rfl)) ?_
    refine Zhm 6 hS9 ?_
    refine Zhm 7 hS9 ?_
    refine Zht 8 rfl (.pointer (some ⟨g59, o60 + k * 27, none⟩)) hS9 (fun _ fr _ _ => x_indexV Try.underlying23 sz45 rfl (fr.ev rfl) hA61 (fr.ev rfl) (by first | omega | decide) rfl) ?_
    refine Zhf 9 fo45_2 hS9 ?_
    refine Zhl (v := .int .i64 ((l.getD k stp0).width)) 10 pl3 hS9 (fun _ ⟨hl, _⟩ => (range_cell ((hl).elem hA61 k stp0 (by first | omega | decide)) 2 rfl rfl)) ?_
    refine Zh1 11 ?_
    replace H63 := ((H63.new hN112).only hO114 (ne1P ap_Fp62_b98)).new hN116
    refine Zk cf17 (u_read H63 ((l.getD k stp0).addr) (l.getD k stp0).ha ((l.getD k stp0).width)) ?_
    rintro v w117 ⟨rfl, hN118⟩
    replace hl := hl.new hN118
    replace B101 := B101.new hN118
    refine Zhb ⟨hl, B101, trivial⟩ ?_
    have hS9 := And.intro hl (And.intro B101 trivial)
    refine Zhm 12 hS9 ?_
    refine Zhx 13 hS9 ?_
    refine Zhx 14 hS9 ?_
    refine Zha 15 hS9 ?_
    refine Zhn ?_
    refine Ztl ?_
    refine Za ?_
    refine Znn ?_
    refine Zsq ?_
    refine ZhT (n := 16) 16 (fun w => View stpE w Al cl l ∧ Blk w b98 42 (rcE.arr (rav ((writeF do_ ((l.getD k stp0).addr) ((l.getD k stp0).width) ((l.getD k stp0).value)).1) A103 cap104)) ∧ True) ?_
    intro w119 hN120
    replace hl := hl.new hN120
    replace B101 := B101.new hN120
    have hS9 := And.intro hl (And.intro B101 trivial)
    refine ZhE 0 rcE ag42 hS9 (fun _ ⟨_, B101, _⟩ => (B101.rangeE rcE)) ?_
    refine Zhm 1 hS9 ?_
    refine Zhm 2 hS9 ?_
    refine Zht 3 rfl (.pointer (some ⟨g59, o60 + k * 27, none⟩)) hS9 (fun _ fr _ _ => x_indexV Try.underlying23 sz45 rfl (fr.ev rfl) hA61 (fr.ev rfl) (by first | omega | decide) rfl) ?_
    refine Zhf 4 fo45_4 hS9 ?_
    refine Zhl (v := .int .u32 ((l.getD k stp0).addr)) 5 pl32 hS9 (fun _ ⟨hl, _⟩ => (range_cell ((hl).elem hA61 k stp0 (by first | omega | decide)) 4 rfl rfl)) ?_
    refine Zhm 6 hS9 ?_
    refine Zhm 7 hS9 ?_
    refine Zht 8 rfl (.pointer (some ⟨g59, o60 + k * 27, none⟩)) hS9 (fun _ fr _ _ => x_indexV Try.underlying23 sz45 rfl (fr.ev rfl) hA61 (fr.ev rfl) (by first | omega | decide) rfl) ?_
    refine Zhf 9 fo45_2 hS9 ?_
    refine Zhl (v := .int .i64 ((l.getD k stp0).width)) 10 pl3 hS9 (fun _ ⟨hl, _⟩ => (range_cell ((hl).elem hA61 k stp0 (by first | omega | decide)) 2 rfl rfl)) ?_
    refine Zh1 11 ?_
    replace V105 := (((V105.only hO114 (Apart.ne1 ap_A103_b98)).new hN116).new hN118).new hN120
    replace H63 := (H63.new hN118).new hN120
    refine Zk cf18 (ur_read V105 H63.2 ((l.getD k stp0).addr) (l.getD k stp0).ha ((l.getD k stp0).width)) ?_
    rintro v w121 ⟨rfl, hN122⟩
    replace hl := hl.new hN122
    replace B101 := B101.new hN122
    refine Zhb ⟨hl, B101, trivial⟩ ?_
    have hS9 := And.intro hl (And.intro B101 trivial)
    refine Zhm 12 hS9 ?_
    refine Zhx 13 hS9 ?_
    refine Zhx 14 hS9 ?_
    refine Zha 15 hS9 ?_
    refine Zhn ?_
    refine Ztl ?_
    refine Za ?_
    refine Znn ?_
    refine Zsq ?_
    refine Zsr ?_
    refine Zm ?_
    refine Zm ?_
    refine Zv (.bool false) (fun _ fr => x_neq rfl (fr.ev rfl) (fr.ev rfl) (by simp)) ?_
    refine Zm ?_
    refine Zm ?_
    refine Zm ?_
    refine Zv (.bool false) (fun _ fr => x_neq rfl (fr.ev rfl) (fr.ev rfl) (by simp)) ?_
    refine Zpf ?_
    refine Zm ?_
    refine Zm ?_
    refine Zm ?_
    refine Zv (.bool false) (fun _ fr => x_neq rfl (fr.ev rfl) (fr.ev rfl) (by simp)) ?_
    refine Zpf ?_
    refine Zm ?_
    refine Zm ?_
    refine ZE rcE ag42 (B101.rangeE rcE) ?_
    replace H63 := H63.new hN122
    replace V105 := V105.new hN122
    refine Zk cf19 (same_c H63 V105 (symP ap2_A103_Fp62)) ?_
    rintro v w123 ⟨rfl, hN124⟩
    refine Zv (.bool false) (fun _ fr => x_not rfl (fr.ev rfl) rfl) ?_
    refine Zpf ?_
    refine Znn ?_
    refine Zcf ?_
    refine Zsk ?_
    refine Znx ?_
    refine Zrg ?_
    replace B101 := B101.new hN124
    refine ZE rcE ag42 (B101.rangeE rcE) ?_
    replace B50 := ((((B50.new hN116).new hN118).new hN120).new hN122).new hN124
    refine ZsS sz42 (rcE.all _) B50 (rcE.size _) (rcE.size _) fun w125 hO126 hBq => ?_
    replace B50 := hBq
    clear hBq
    refine Znl ?_
    refine Zb ?_
    refine Znx ?_
    refine Zrg ?_
    refine Zm ?_
    refine Zv _ (fun _ fr => x_add rfl (fr.ev rfl) rfl (i64w (r := ((k + 1 : Nat) : Int)) (by omega) (by omega))) ?_
    refine Za ?_
    intro a fr
    refine wpList_nil ?_
    refine fx_next ?_
    replace B4 := (((((((B4.new hN112).only hO114 ne_b1_b98).new hN116).new hN118).new hN120).new hN122).new hN124).only hO126 ne_b1_b47
    replace O20 := (((((((O20.new hN112).only hO114 (Apart.ne1 ap_A18_b98)).new hN116).new hN118).new hN120).new hN122).new hN124).only hO126 (Apart.ne1 ap_A18_b47)
    replace B27 := (((((((B27.new hN112).only hO114 ne_b24_b98).new hN116).new hN118).new hN120).new hN122).new hN124).only hO126 ne_b24_b47
    replace O38 := (((((((O38.new hN112).only hO114 (Apart.ne1 ap_A36_b98)).new hN116).new hN118).new hN120).new hN122).new hN124).only hO126 (Apart.ne1 ap_A36_b47)
    replace hF := (((((((hF.trNew hN112).loc hO114 (.inr g_b98)).trNew hN116).trNew hN118).trNew hN120).trNew hN122).trNew hN124).loc hO126 (.inr g_b47)
    replace hl := (hl.new hN124).only hO126 (Apart.ne1 ap_Al_b47)
    replace H63 := (H63.new hN124).only hO126 (ne1P ap_Fp62_b47)
    replace V105 := (V105.new hN124).only hO126 (Apart.ne1 ap_A103_b47)
    exact ⟨_, by omega, (k + 1), (writeF do_ ((l.getD k stp0).addr) ((l.getD k stp0).width) ((l.getD k stp0).value)).1, Fp62, A103, cap104, rfl, fr.sub ⟨rfl, rfl, rfl, rfl, rfl, rfl, rfl, trivial⟩, hF, hl, B4, O20, B27, O38, H63, V105, B50, by omega, (symP ap2_Fp62_Al), ap_Fp62_b1, ap_A103_b1, (symP ap2_Fp62_A18), ap2_A103_A18.symm, ap_Fp62_b24, ap_A103_b24, (symP ap2_Fp62_A36), ap2_A103_A36.symm, (symP ap2_A103_Fp62), ap_Fp62_b47, ap_A103_b47, gA_Fp62, gA_A103⟩
  ·have hc56 := of_decide_eq_false hc56
   refine Zex ?_
   refine Zxt ?_
   refine Zxt ?_
   refine Zxx ?_
   refine Znx ?_
   refine Zsr ?_
   refine Zk cf11 (known_c _) ?_
   rintro v w127 ⟨rfl, hN128⟩
   refine Za ?_
   refine Znn ?_
   refine Zrt ?_
   refine Zre rfl [_] ⟨rfl, trivial⟩ ?_
   replace hF := hF.trNew hN128
   exact ⟨_, rfl, rfl, hF⟩
set_option maxRecDepth 100000 in
set_option maxHeartbeats 4000000 in
theorem bytes_e (b : B16) {w : World} {Al : Option Addr} {cl : Nat} {l : List Stp} (hl : View stpE w Al cl l)  : Calls Try.prog 3 #[.agg (bsE.arr b), .bool false, .slice Al l.length cl] w (Ret fun v w' => v = .bool true ∧ New w w') := by
 have hll := hl.len
 unfold maxLen at hll
 have hF := Only.refl (fun _ => False) w
 refine Zen 136 Try.func3 ?_
 refine Zsr ?_
 refine Znb (cs := bsE.arr b) fun b1 w2 hN3 B4 hb5 => ?_
 refine Za ?_
 refine Znn ?_
 refine Zsq ?_
 refine Zsr ?_
 refine Zm ?_
 refine Zv _ (fun _ fr => x_len Try.underlying23 rfl (fr.ev rfl)) ?_
 refine Zv _ (fun _ fr => x_gtr rfl (fr.ev rfl) rfl rfl) ?_
 refine Znn ?_
 refine Zcd (fun hc6 => ?_) (fun hc6 => ?_)
 ·have hc6 := of_decide_eq_true hc6
  refine Zsr ?_
  refine Zk cf11 (known_c _) ?_
  rintro v w7 ⟨rfl, hN8⟩
  refine Za ?_
  refine Znn ?_
  refine Zrt ?_
  refine Zr1 ?_
  refine Zre rfl [_] ⟨rfl, trivial⟩ ?_
  replace hF := (hF.trNew hN3).trNew hN8
  exact ⟨_, rfl, rfl, hF⟩
 ·have hc6 := of_decide_eq_false hc6
  refine Zsk ?_
  refine Znx ?_
  refine Zsr ?_
  refine Zk (args := #[.int .i64 2, .int .i64 1, .int .i64 1]) cf12 (u_new 2 1 1 (by omega) (by decide) _) ?_
  rintro v w13 ⟨b9, Fp10, rfl, H11, hb12, hN14⟩
  replace hl := hl.new hN3
  have ap2_Al_Fp10 : ∀ k, inA Al k → Fp10 k → False := symP (new_apart2P hb12 fun _ hg => hl.lt hg)
  have ap_Fp10_b1 : ¬ Fp10 b1 := new_apartP hb12 B4.lt
  replace hF := hF.trNew hN3
  have gA_Fp10 := gA_newP hF hb12
  refine Zm ?_
  refine Zt ?_
  refine Zt ?_
  refine Za ?_
  refine Za ?_
  refine Znn ?_
  refine Zsr ?_
  refine Zm ?_
  refine Zk cf13 (b_ask H11) ?_
  rintro v w22 ⟨A18, cap19, rfl, O20, hA21, Fp15, H16, hN23, mv17⟩
  replace hl := hl.new hN14
  have ap2_Fp15_Al : ∀ k, Fp15 k → inA Al k → False := moved_apart2P mv17 (symP ap2_Al_Fp10) fun _ hg => hl.lt hg
  replace B4 := B4.new hN14
  have ap_Fp15_b1 : ¬ Fp15 b1 := moved_apartP mv17 ap_Fp10_b1 B4.lt
  replace hF := hF.trNew hN14
  have gA_Fp15 := gA_movedP hF mv17 gA_Fp10
  have hdok_H11 := H11.2
  clear H11
  have ap2_Fp15_A18 := H16.msg_ap O20
  refine Znn ?_
  refine Zsr ?_
  replace B4 := B4.only hN23 ap_Fp10_b1
  refine ZE bsE ag22 (B4.rangeE bsE) ?_
  refine Zv (.agg (msgE.arr (mkM 9 4 2 1 b))) (fun a fr => x_build (cells := msgE.arr (mkM 9 4 2 1 b)) rfl (by simp only [List.map_toArray, List.map_cons, List.map_nil, show a.eval (.tmp 30) = .agg (bsE.arr b) from fr.ev rfl]; exact built_msg _ _ _ _ _ _)) ?_
  refine Zna (z := zv3) (cs := msgE.arr msg0) (by kernel_rfl) fun b24 w25 hN26 B27 hb28 => ?_
  replace hl := hl.only hN23 (fun g h1 h2 => ap2_Al_Fp10 g h1 h2)
  have ap_Al_b24 : Apart Al b24 := hl.apart hb28
  have ne_b1_b24 : NE b1 b24 := NE.mk (Nat.lt_of_lt_of_le B4.lt hb28)
  have ap_Fp15_b24 : ¬ Fp15 b24 := H16.apart hb28
  have ap_A18_b24 : Apart A18 b24 := O20.apart hb28
  replace hF := hF.locP hN23 gA_Fp10
  have g_b24 := Nat.le_trans hF.size hb28
  refine ZsS sz35 (msgE.all _) B27 (msgE.size _) (msgE.size _) fun w29 hO30 hBq => ?_
  replace B27 := hBq
  clear hBq
  refine Znn ?_
  refine Zsr ?_
  refine Za ?_
  refine Znn ?_
  refine Zsq ?_
  refine Zsr ?_
  refine Zm ?_
  refine Znn ?_
  refine Zcf ?_
  refine Zsk ?_
  refine Znx ?_
  refine Zsr ?_
  refine Zm ?_
  refine ZE msgE ag35 (B27.rangeE msgE) ?_
  replace H16 := (H16.new hN26).only hO30 (ne1P ap_Fp15_b24)
  refine Zk cf14 (b_take2 b H16) ?_
  rintro v w38 ⟨A34, cap35, rfl, O36, hA37, Fp31, H32, hN39, mv33⟩
  replace hl := (hl.new hN26).only hO30 (Apart.ne1 ap_Al_b24)
  have ap2_Fp31_Al : ∀ k, Fp31 k → inA Al k → False := moved_apart2P mv33 ap2_Fp15_Al fun _ hg => hl.lt hg
  replace B4 := (B4.new hN26).only hO30 ne_b1_b24
  have ap_Fp31_b1 : ¬ Fp31 b1 := moved_apartP mv33 ap_Fp15_b1 B4.lt
  replace O20 := (O20.new hN26).only hO30 (Apart.ne1 ap_A18_b24)
  have ap2_Fp31_A18 : ∀ k, Fp31 k → inA A18 k → False := moved_apart2P mv33 ap2_Fp15_A18 fun _ hg => O20.lt hg
  have ap_Fp31_b24 : ¬ Fp31 b24 := moved_apartP mv33 ap_Fp15_b24 B27.lt
  replace hF := (hF.trNew hN26).loc hO30 (.inr g_b24)
  have gA_Fp31 := gA_movedP hF mv33 gA_Fp15
  have hdok_H16 := H16.2
  clear H16
  have ap2_Fp31_A34 := H32.msg_ap O36
  refine Znn ?_
  refine Zsr ?_
  refine Zm ?_
  replace B4 := B4.only hN39 ap_Fp15_b1
  refine ZE bsE ag22 (B4.rangeE bsE) ?_
  refine Zv (.agg (lnE.arr (mkL 1 2 b))) (fun a fr => x_build (cells := lnE.arr (mkL 1 2 b)) rfl (by simp only [List.map_toArray, List.map_cons, List.map_nil, show a.eval (.tmp 37) = .int .i64 2 from fr.ev rfl, show a.eval (.tmp 38) = .agg (bsE.arr b) from fr.ev rfl]; exact built_ln _ _ _ _)) ?_
  intro a fr
  refine fx_build1 (E := lnE) (p := (mkL 1 2 b)) elLn (by decide) fr rfl rfl (by decide) rfl (fr.ev rfl) ?_
  clear fr a
  intro A40 w41 hN42 O43 hA44
  have ap_A40_b1 : Apart A40 b1 := new_apart hA44 B4.lt
  replace O20 := O20.only hN39 (fun g h1 h2 => (symP ap2_Fp15_A18) g h1 h2)
  have ap2_A18_A40 : Apart2 A18 A40 := (new_apart2 hA44 fun _ hg => O20.lt hg).symm
  replace B27 := B27.only hN39 ap_Fp15_b24
  have ap_A40_b24 : Apart A40 b24 := new_apart hA44 B27.lt
  have ap2_Fp31_A40 : ∀ k, Fp31 k → inA A40 k → False := symP (new_apart2P hA44 fun _ hg => H32.lt hg)
  have ap2_A34_A40 : Apart2 A34 A40 := (new_apart2 hA44 fun _ hg => O36.lt hg).symm
  replace hF := hF.locP hN39 gA_Fp15
  have gA_A40 := gA_new hF hA44
  refine Zv (.agg (rcE.arr (RC.mk 2 1 1 A40 1 1 false 0 false false ln0))) (fun a fr => x_build (cells := rcE.arr (RC.mk 2 1 1 A40 1 1 false 0 false false ln0)) rfl (by simp only [List.map_toArray, List.map_cons, List.map_nil, show a.eval (.tmp 40) = .slice A40 1 1 from fr.ev rfl]; kernel_rfl)) ?_
  refine Zna (z := zv4) (cs := rcE.arr rc0) (by kernel_rfl) fun b45 w46 hN47 B48 hb49 => ?_
  replace hl := (hl.only hN39 (fun g h1 h2 => (symP ap2_Fp15_Al) g h1 h2)).new hN42
  have ap_Al_b45 : Apart Al b45 := hl.apart hb49
  replace B4 := B4.new hN42
  have ne_b1_b45 : NE b1 b45 := NE.mk (Nat.lt_of_lt_of_le B4.lt hb49)
  replace O20 := O20.new hN42
  have ap_A18_b45 : Apart A18 b45 := O20.apart hb49
  replace B27 := B27.new hN42
  have ne_b24_b45 : NE b24 b45 := NE.mk (Nat.lt_of_lt_of_le B27.lt hb49)
  replace H32 := H32.new hN42
  have ap_Fp31_b45 : ¬ Fp31 b45 := H32.apart hb49
  replace O36 := O36.new hN42
  have ap_A34_b45 : Apart A34 b45 := O36.apart hb49
  have ap_A40_b45 : Apart A40 b45 := O43.apart hb49
  replace hF := hF.trNew hN42
  have g_b45 := Nat.le_trans hF.size hb49
  refine ZsS sz42 (rcE.all _) B48 (rcE.size _) (rcE.size _) fun w50 hO51 hBq => ?_
  replace B48 := hBq
  clear hBq
  refine Znn ?_
  refine Zsq ?_
  refine Zsq ?_
  replace O43 := (O43.new hN47).only hO51 (Apart.ne1 ap_A40_b45)
  have hVz : View lnE w50 A40 1 (allL (bd2 2 b).n (bd2 2 b).L) := (show View lnE w50 A40 1 (allL 1 [bln 2 b]) by rw [all_bd2]; exact O43.view)
  replace B48 : Blk w50 b45 42 (rcE.arr (rav (bd2 2 b) A40 1)) := (by rw [rav_bd2]; exact B48)
  refine Zrg ?_
  refine Za ?_
  refine Znn ?_
  refine Zbl ?_
  intro a fr
  replace hl := (hl.new hN47).only hO51 (Apart.ne1 ap_Al_b45)
  replace B4 := (B4.new hN47).only hO51 ne_b1_b45
  replace O20 := (O20.new hN47).only hO51 (Apart.ne1 ap_A18_b45)
  replace B27 := (B27.new hN47).only hO51 ne_b24_b45
  replace H32 := (H32.new hN47).only hO51 (ne1P ap_Fp31_b45)
  replace O36 := (O36.new hN47).only hO51 (Apart.ne1 ap_A34_b45)
  replace hF := (hF.trNew hN47).loc hO51 (.inr g_b45)
  refine fx_loop (fun nM a wL => ∃ k : Nat, ∃ do_ : CD, ∃ Fpo : Nat → Prop, ∃ Ao : Option Addr, ∃ co : Nat, nM = l.length - k ∧ Fr (136, []) [(1, .bool false), (2, .slice Al l.length cl), (3, .pointer (some ⟨b1, 0, none⟩)), (7, .pointer (some ⟨b9, 0, none⟩)), (9, .pointer (some ⟨b24, 0, none⟩)), (11, .pointer (some ⟨b45, 0, none⟩)), (12, .int .i64 ((k : Nat) : Int))] a ∧ Only (fun _ => False) w wL ∧ View stpE wL Al cl l ∧ Blk wL b1 22 (bsE.arr b) ∧ Own msgE wL A18 cap19 ([(mkM 1 2 4 1)]) ∧ Blk wL b24 35 (msgE.arr (mkM 9 4 2 1 b)) ∧ Own msgE wL A34 cap35 ([(mkM 13 2 4 1)]) ∧ CacAt wL Fpo b9 do_ ∧ View lnE wL Ao co (allL do_.n do_.L) ∧ Blk wL b45 42 (rcE.arr (rav do_ Ao co)) ∧ k ≤ l.length ∧ (∀ k, inA Al k → Fpo k → False) ∧ (¬ Fpo b1) ∧ (Apart Ao b1) ∧ (∀ k, inA A18 k → Fpo k → False) ∧ (Apart2 A18 Ao) ∧ (¬ Fpo b24) ∧ (Apart Ao b24) ∧ (∀ k, inA A34 k → Fpo k → False) ∧ (Apart2 A34 Ao) ∧ (∀ k, Fpo k → inA Ao k → False) ∧ (¬ Fpo b45) ∧ (Apart Ao b45) ∧ (∀ g, Fpo g → (fun _ => False) g ∨ w.heap.size ≤ g) ∧ (∀ g, inA Ao g → (fun _ => False) g ∨ w.heap.size ≤ g)) (n0 := _) ⟨0, (bd2 2 b), Fp31, A40, 1, rfl, fr.sub ⟨rfl, rfl, rfl, rfl, rfl, rfl, rfl, trivial⟩, hF, hl, B4, O20, B27, O36, H32, hVz, B48, by omega, (symP ap2_Fp31_Al), ap_Fp31_b1, ap_A40_b1, (symP ap2_Fp31_A18), ap2_A18_A40, ap_Fp31_b24, ap_A40_b24, (symP ap2_Fp31_A34), ap2_A34_A40, ap2_Fp31_A40, ap_Fp31_b45, ap_A40_b45, gA_Fp31, gA_A40⟩ ?_
  clear fr a
  rintro n53 a w52 ⟨k, do_, Fpo, Ao, co, rfl, fr, hF, hl, B4, O20, B27, O36, Ho, hVo, B48, hk, ap2_Al_Fpo, ap_Fpo_b1, ap_Ao_b1, ap2_A18_Fpo, ap2_A18_Ao, ap_Fpo_b24, ap_Ao_b24, ap2_A34_Fpo, ap2_A34_Ao, ap2_Fpo_Ao, ap_Fpo_b45, ap_Ao_b45, gA_Fpo, gA_Ao⟩
  revert a
  refine Zsq ?_
  refine Zsr ?_
  refine Zm ?_
  refine Zm ?_
  refine Zv _ (fun _ fr => x_len Try.underlying23 rfl (fr.ev rfl)) ?_
  refine Zv _ (fun _ fr => x_lss rfl (fr.ev rfl) (fr.ev rfl) rfl) ?_
  refine Znn ?_
  refine Zcd (fun hc54 => ?_) (fun hc54 => ?_)
  ·have hc54 := of_decide_eq_true hc54
   refine Zsk ?_
   refine Znx ?_
   refine Zsq ?_
   refine Zbl ?_
   refine Zsq ?_
   refine ZhT (n := 17) 17 (fun w => View stpE w Al cl l ∧ Blk w b45 42 (rcE.arr (rav do_ Ao co)) ∧ True) ?_
   intro w55 hN56
   replace hl := hl.new hN56
   replace B48 := B48.new hN56
   have hS9 := And.intro hl (And.intro B48 trivial)
   refine Zhm 0 hS9 ?_
   refine Zhm 1 hS9 ?_
   refine Zhm 2 hS9 ?_
   obtain ⟨g57, o58, hA59⟩ := (hl).some_ (by first | omega | decide)
   have hS9 := And.intro hl (And.intro B48 trivial)
   refine Zht 3 rfl (.pointer (some ⟨g57, o58 + k * 27, none⟩)) hS9 (fun _ fr _ _ => x_indexV Try.underlying23 sz45 rfl (fr.ev rfl) hA59 (fr.ev rfl) (by first | omega | decide) rfl) ?_
   refine Zhf 4 fo45_4 hS9 ?_
   refine Zhl (v := .int .u32 ((l.getD k stp0).addr)) 5 pl32 hS9 (fun _ ⟨hl, _⟩ => (range_cell ((hl).elem hA59 k stp0 (by first | omega | decide)) 4 rfl rfl)) ?_
   refine Zhm 6 hS9 ?_
   refine Zhm 7 hS9 ?_
   refine Zht 8 rfl (.pointer (some ⟨g57, o58 + k * 27, none⟩)) hS9 (fun _ fr _ _ => x_indexV Try.underlying23 sz45 rfl (fr.ev rfl) hA59 (fr.ev rfl) (by first | omega | decide) rfl) ?_
   refine Zhf 9 fo45_2 hS9 ?_
   refine Zhl (v := .int .i64 ((l.getD k stp0).width)) 10 pl3 hS9 (fun _ ⟨hl, _⟩ => (range_cell ((hl).elem hA59 k stp0 (by first | omega | decide)) 2 rfl rfl)) ?_
   refine Zhm 11 hS9 ?_
   refine Zhm 12 hS9 ?_
   refine Zht 13 rfl (.pointer (some ⟨g57, o58 + k * 27, none⟩)) hS9 (fun _ fr _ _ => x_indexV Try.underlying23 sz45 rfl (fr.ev rfl) hA59 (fr.ev rfl) (by first | omega | decide) rfl) ?_
   refine Zhf 14 fo45_5 hS9 ?_
   refine Zhl (v := .int .u32 ((l.getD k stp0).value)) 15 pl32 hS9 (fun _ ⟨hl, _⟩ => (range_cell ((hl).elem hA59 k stp0 (by first | omega | decide)) 5 rfl rfl)) ?_
   refine Zh1 16 ?_
   replace Ho := Ho.new hN56
   refine Zk cf15 (u_write Ho ((l.getD k stp0).addr) (l.getD k stp0).ha ((l.getD k stp0).width) ((l.getD k stp0).value)) ?_
   rintro v w63 ⟨rfl, Fp60, H61, hN64, mv62⟩
   have ap2_Fp60_Al : ∀ k, Fp60 k → inA Al k → False := moved_apart2P mv62 (symP ap2_Al_Fpo) fun _ hg => hl.lt hg
   replace B4 := B4.new hN56
   have ap_Fp60_b1 : ¬ Fp60 b1 := moved_apartP mv62 ap_Fpo_b1 B4.lt
   replace O20 := O20.new hN56
   have ap2_Fp60_A18 : ∀ k, Fp60 k → inA A18 k → False := moved_apart2P mv62 (symP ap2_A18_Fpo) fun _ hg => O20.lt hg
   replace B27 := B27.new hN56
   have ap_Fp60_b24 : ¬ Fp60 b24 := moved_apartP mv62 ap_Fpo_b24 B27.lt
   replace O36 := O36.new hN56
   have ap2_Fp60_A34 : ∀ k, Fp60 k → inA A34 k → False := moved_apart2P mv62 (symP ap2_A34_Fpo) fun _ hg => O36.lt hg
   replace hVo := hVo.new hN56
   have ap2_Fp60_Ao : ∀ k, Fp60 k → inA Ao k → False := moved_apart2P mv62 ap2_Fpo_Ao fun _ hg => hVo.lt hg
   have ap_Fp60_b45 : ¬ Fp60 b45 := moved_apartP mv62 ap_Fpo_b45 B48.lt
   replace hF := hF.trNew hN56
   have gA_Fp60 := gA_movedP hF mv62 gA_Fpo
   have hdok_Ho := Ho.2
   clear Ho
   replace hl := hl.only hN64 (fun g h1 h2 => ap2_Al_Fpo g h1 h2)
   replace B48 := B48.only hN64 ap_Fpo_b45
   refine Zhb ⟨hl, B48, trivial⟩ ?_
   refine Zhn ?_
   refine Ztl ?_
   refine Za ?_
   refine Znn ?_
   refine Zsq ?_
   refine ZhT (n := 22) 22 (fun w => View stpE w Al cl l ∧ Blk w b45 42 (rcE.arr (rav do_ Ao co)) ∧ True) ?_
   intro w65 hN66
   replace hl := hl.new hN66
   replace B48 := B48.new hN66
   have hS9 := And.intro hl (And.intro B48 trivial)
   refine ZhE 0 rcE ag42 hS9 (fun _ ⟨_, B48, _⟩ => (B48.rangeE rcE)) ?_
   refine Zhm 1 hS9 ?_
   refine Zhm 2 hS9 ?_
   refine Zht 3 rfl (.pointer (some ⟨g57, o58 + k * 27, none⟩)) hS9 (fun _ fr _ _ => x_indexV Try.underlying23 sz45 rfl (fr.ev rfl) hA59 (fr.ev rfl) (by first | omega | decide) rfl) ?_
   refine Zhf 4 fo45_4 hS9 ?_
   refine Zhl (v := .int .u32 ((l.getD k stp0).addr)) 5 pl32 hS9 (fun _ ⟨hl, _⟩ => (range_cell ((hl).elem hA59 k stp0 (by first | omega | decide)) 4 rfl rfl)) ?_
   refine Zhm 6 hS9 ?_
   refine Zhm 7 hS9 ?_
   refine Zht 8 rfl (.pointer (some ⟨g57, o58 + k * 27, none⟩)) hS9 (fun _ fr _ _ => x_indexV Try.underlying23 sz45 rfl (fr.ev rfl) hA59 (fr.ev rfl) (by first | omega | decide) rfl) ?_
   refine Zhf 9 fo45_2 hS9 ?_
   refine Zhl (v := .int .i64 ((l.getD k stp0).width)) 10 pl3 hS9 (fun _ ⟨hl, _⟩ => (range_cell ((hl).elem hA59 k stp0 (by first | omega | decide)) 2 rfl rfl)) ?_
   refine Zhm 11 hS9 ?_
   refine Zhm 12 hS9 ?_
   refine Zht 13 rfl (.pointer (some ⟨g57, o58 + k * 27, none⟩)) hS9 (fun _ fr _ _ => x_indexV Try.underlying23 sz45 rfl (fr.ev rfl) hA59 (fr.ev rfl) (by first | omega | decide) rfl) ?_
   refine Zhf 14 fo45_5 hS9 ?_
   refine Zhl (v := .int .u32 ((l.getD k stp0).value)) 15 pl32 hS9 (fun _ ⟨hl, _⟩ => (range_cell ((hl).elem hA59 k stp0 (by first | omega | decide)) 5 rfl rfl)) ?_
   refine Zh2 16 20 ?_ ?_
   ·replace hVo := (hVo.only hN64 (fun g h1 h2 => (symP ap2_Fpo_Ao) g h1 h2)).new hN66
    refine Zk cf16 (ur_put hVo hdok_Ho ((l.getD k stp0).addr) (l.getD k stp0).ha ((l.getD k stp0).width) ((l.getD k stp0).value) (l.getD k stp0).hv) ?_
    rintro v w75 ⟨A67, cap68, rfl, V69, mv70, hN76⟩
    replace B4 := (B4.only hN64 ap_Fpo_b1).new hN66
    have ap_A67_b1 : Apart A67 b1 := moved_apart mv70 ap_Ao_b1 B4.lt
    replace O20 := (O20.only hN64 (fun g h1 h2 => ap2_A18_Fpo g h1 h2)).new hN66
    have ap2_A67_A18 : Apart2 A67 A18 := moved_apart2 mv70 ap2_A18_Ao.symm fun _ hg => O20.lt hg
    replace B27 := (B27.only hN64 ap_Fpo_b24).new hN66
    have ap_A67_b24 : Apart A67 b24 := moved_apart mv70 ap_Ao_b24 B27.lt
    replace O36 := (O36.only hN64 (fun g h1 h2 => ap2_A34_Fpo g h1 h2)).new hN66
    have ap2_A67_A34 : Apart2 A67 A34 := moved_apart2 mv70 ap2_A34_Ao.symm fun _ hg => O36.lt hg
    have ap_A67_b45 : Apart A67 b45 := moved_apart mv70 ap_Ao_b45 B48.lt
    replace H61 := H61.new hN66
    have ap2_A67_Fp60 : ∀ k, inA A67 k → Fp60 k → False := moved_apart2P mv70 (symP ap2_Fp60_Ao) fun _ hg => H61.lt hg
    replace hF := (hF.locP hN64 gA_Fpo).trNew hN66
    have gA_A67 := gA_moved hF mv70 gA_Ao
    replace hl := hl.new hN76
    replace B48 := B48.new hN76
    refine Zhb ⟨hl, B48, trivial⟩ ?_
    have hS9 := And.intro hl (And.intro B48 trivial)
    refine Zhm 17 hS9 ?_
    refine Zhx 18 hS9 ?_
    refine Zhx 19 hS9 ?_
    refine Zh1 20 ?_
    refine Zna (z := zv4) (cs := rcE.arr rc0) (by kernel_rfl) fun b77 w78 hN79 B80 hb81 => ?_
    have ap_Al_b77 : Apart Al b77 := hl.apart hb81
    replace B4 := B4.new hN76
    have ne_b1_b77 : NE b1 b77 := NE.mk (Nat.lt_of_lt_of_le B4.lt hb81)
    replace O20 := O20.new hN76
    have ap_A18_b77 : Apart A18 b77 := O20.apart hb81
    replace B27 := B27.new hN76
    have ne_b24_b77 : NE b24 b77 := NE.mk (Nat.lt_of_lt_of_le B27.lt hb81)
    replace O36 := O36.new hN76
    have ap_A34_b77 : Apart A34 b77 := O36.apart hb81
    have ne_b45_b77 : NE b45 b77 := NE.mk (Nat.lt_of_lt_of_le B48.lt hb81)
    replace H61 := H61.new hN76
    have ap_Fp60_b77 : ¬ Fp60 b77 := H61.apart hb81
    have ap_A67_b77 : Apart A67 b77 := V69.apart hb81
    replace hF := hF.trNew hN76
    have g_b77 := Nat.le_trans hF.size hb81
    replace hl := hl.new hN79
    replace B48 := B48.new hN79
    refine Zhb ⟨hl, B48, trivial⟩ ?_
    refine Zh1 21 ?_
    refine ZsS sz42 (rcE.all _) B80 (rcE.size _) (rcE.size _) fun w82 hO83 hBq => ?_
    replace B80 := hBq
    clear hBq
    replace hl := hl.only hO83 (Apart.ne1 ap_Al_b77)
    replace B48 := B48.only hO83 ne_b45_b77
    refine Zhb ⟨hl, B48, trivial⟩ ?_
    refine Zhn ?_
    refine Ztl ?_
    refine Za ?_
    refine Znn ?_
    refine Zsq ?_
    refine ZhT (n := 16) 16 (fun w => View stpE w Al cl l ∧ Blk w b77 42 (rcE.arr (rav ((writeF do_ ((l.getD k stp0).addr) ((l.getD k stp0).width) ((l.getD k stp0).value)).1) A67 cap68)) ∧ True) ?_
    intro w84 hN85
    replace hl := hl.new hN85
    replace B80 := B80.new hN85
    have hS9 := And.intro hl (And.intro B80 trivial)
    refine Zhm 0 hS9 ?_
    refine Zhm 1 hS9 ?_
    refine Zhm 2 hS9 ?_
    refine Zht 3 rfl (.pointer (some ⟨g57, o58 + k * 27, none⟩)) hS9 (fun _ fr _ _ => x_indexV Try.underlying23 sz45 rfl (fr.ev rfl) hA59 (fr.ev rfl) (by first | omega | decide) rfl) ?_
    refine Zhf 4 fo45_4 hS9 ?_
    refine Zhl (v := .int .u32 ((l.getD k stp0).addr)) 5 pl32 hS9 (fun _ ⟨hl, _⟩ => (range_cell ((hl).elem hA59 k stp0 (by first | omega | decide)) 4 rfl rfl)) ?_
    refine Zhm 6 hS9 ?_
    refine Zhm 7 hS9 ?_
    refine Zht 8 rfl (.pointer (some ⟨g57, o58 + k * 27, none⟩)) hS9 (fun _ fr _ _ => x_indexV Try.underlying23 sz45 rfl (fr.ev rfl) hA59 (fr.ev rfl) (by first | omega | decide) rfl) ?_
    refine Zhf 9 fo45_2 hS9 ?_
    refine Zhl (v := .int .i64 ((l.getD k stp0).width)) 10 pl3 hS9 (fun _ ⟨hl, _⟩ => (range_cell ((hl).elem hA59 k stp0 (by first | omega | decide)) 2 rfl rfl)) ?_
    refine Zh1 11 ?_
    replace H61 := ((H61.new hN79).only hO83 (ne1P ap_Fp60_b77)).new hN85
    refine Zk cf17 (u_read H61 ((l.getD k stp0).addr) (l.getD k stp0).ha ((l.getD k stp0).width)) ?_
    rintro v w86 ⟨rfl, hN87⟩
    replace hl := hl.new hN87
    replace B80 := B80.new hN87
    refine Zhb ⟨hl, B80, trivial⟩ ?_
    have hS9 := And.intro hl (And.intro B80 trivial)
    refine Zhm 12 hS9 ?_
    refine Zhx 13 hS9 ?_
    refine Zhx 14 hS9 ?_
    refine Zha 15 hS9 ?_
    refine Zhn ?_
    refine Ztl ?_
    refine Za ?_
    refine Znn ?_
    refine Zsq ?_
    refine ZhT (n := 16) 16 (fun w => View stpE w Al cl l ∧ Blk w b77 42 (rcE.arr (rav ((writeF do_ ((l.getD k stp0).addr) ((l.getD k stp0).width) ((l.getD k stp0).value)).1) A67 cap68)) ∧ True) ?_
    intro w88 hN89
    replace hl := hl.new hN89
    replace B80 := B80.new hN89
    have hS9 := And.intro hl (And.intro B80 trivial)
    refine ZhE 0 rcE ag42 hS9 (fun _ ⟨_, B80, _⟩ => (B80.rangeE rcE)) ?_
    refine Zhm 1 hS9 ?_
    refine Zhm 2 hS9 ?_
    refine Zht 3 rfl (.pointer (some ⟨g57, o58 + k * 27, none⟩)) hS9 (fun _ fr _ _ => x_indexV Try.underlying23 sz45 rfl (fr.ev rfl) hA59 (fr.ev rfl) (by first | omega | decide) rfl) ?_
    refine Zhf 4 fo45_4 hS9 ?_
    refine Zhl (v := .int .u32 ((l.getD k stp0).addr)) 5 pl32 hS9 (fun _ ⟨hl, _⟩ => (range_cell ((hl).elem hA59 k stp0 (by first | omega | decide)) 4 rfl rfl)) ?_
    refine Zhm 6 hS9 ?_
    refine Zhm 7 hS9 ?_
    refine Zht 8 rfl (.pointer (some ⟨g57, o58 + k * 27, none⟩)) hS9 (fun _ fr _ _ => x_indexV Try.underlying23 sz45 rfl (fr.ev rfl) hA59 (fr.ev rfl) (by first | omega | decide) rfl) ?_
    refine Zhf 9 fo45_2 hS9 ?_
    refine Zhl (v := .int .i64 ((l.getD k stp0).width)) 10 pl3 hS9 (fun _ ⟨hl, _⟩ => (range_cell ((hl).elem hA59 k stp0 (by first | omega | decide)) 2 rfl rfl)) ?_
    refine Zh1 11 ?_
    replace V69 := ((((V69.new hN79).only hO83 (Apart.ne1 ap_A67_b77)).new hN85).new hN87).new hN89
    replace H61 := (H61.new hN87).new hN89
    refine Zk cf18 (ur_read V69 H61.2 ((l.getD k stp0).addr) (l.getD k stp0).ha ((l.getD k stp0).width)) ?_
    rintro v w90 ⟨rfl, hN91⟩
    replace hl := hl.new hN91
    replace B80 := B80.new hN91
    refine Zhb ⟨hl, B80, trivial⟩ ?_
    have hS9 := And.intro hl (And.intro B80 trivial)
    refine Zhm 12 hS9 ?_
    refine Zhx 13 hS9 ?_
    refine Zhx 14 hS9 ?_
    refine Zha 15 hS9 ?_
    refine Zhn ?_
    refine Ztl ?_
    refine Za ?_
    refine Znn ?_
    refine Zsq ?_
    refine Zsr ?_
    refine Zm ?_
    refine Zm ?_
    refine Zv (.bool false) (fun _ fr => x_neq rfl (fr.ev rfl) (fr.ev rfl) (by simp)) ?_
    refine Zm ?_
    refine Zm ?_
    refine Zm ?_
    refine Zv (.bool false) (fun _ fr => x_neq rfl (fr.ev rfl) (fr.ev rfl) (by simp)) ?_
    refine Zpf ?_
    refine Zm ?_
    refine Zm ?_
    refine Zm ?_
    refine Zv (.bool false) (fun _ fr => x_neq rfl (fr.ev rfl) (fr.ev rfl) (by simp)) ?_
    refine Zpf ?_
    refine Zm ?_
    refine Zm ?_
    refine ZE rcE ag42 (B80.rangeE rcE) ?_
    replace H61 := H61.new hN91
    replace V69 := V69.new hN91
    refine Zk cf19 (same_c H61 V69 (symP ap2_A67_Fp60)) ?_
    rintro v w92 ⟨rfl, hN93⟩
    refine Zv (.bool false) (fun _ fr => x_not rfl (fr.ev rfl) rfl) ?_
    refine Zpf ?_
    refine Znn ?_
    refine Zcf ?_
    refine Zsk ?_
    refine Znx ?_
    refine Zrg ?_
    replace B80 := B80.new hN93
    refine ZE rcE ag42 (B80.rangeE rcE) ?_
    replace B48 := ((((B48.new hN85).new hN87).new hN89).new hN91).new hN93
    refine ZsS sz42 (rcE.all _) B48 (rcE.size _) (rcE.size _) fun w94 hO95 hBq => ?_
    replace B48 := hBq
    clear hBq
    refine Znl ?_
    refine Zb ?_
    refine Znx ?_
    refine Zrg ?_
    refine Zm ?_
    refine Zv _ (fun _ fr => x_add rfl (fr.ev rfl) rfl (i64w (r := ((k + 1 : Nat) : Int)) (by omega) (by omega))) ?_
    refine Za ?_
    intro a fr
    refine wpList_nil ?_
    refine fx_next ?_
    replace B4 := (((((((B4.new hN79).only hO83 ne_b1_b77).new hN85).new hN87).new hN89).new hN91).new hN93).only hO95 ne_b1_b45
    replace O20 := (((((((O20.new hN79).only hO83 (Apart.ne1 ap_A18_b77)).new hN85).new hN87).new hN89).new hN91).new hN93).only hO95 (Apart.ne1 ap_A18_b45)
    replace B27 := (((((((B27.new hN79).only hO83 ne_b24_b77).new hN85).new hN87).new hN89).new hN91).new hN93).only hO95 ne_b24_b45
    replace O36 := (((((((O36.new hN79).only hO83 (Apart.ne1 ap_A34_b77)).new hN85).new hN87).new hN89).new hN91).new hN93).only hO95 (Apart.ne1 ap_A34_b45)
    replace hF := (((((((hF.trNew hN79).loc hO83 (.inr g_b77)).trNew hN85).trNew hN87).trNew hN89).trNew hN91).trNew hN93).loc hO95 (.inr g_b45)
    replace hl := (hl.new hN93).only hO95 (Apart.ne1 ap_Al_b45)
    replace H61 := (H61.new hN93).only hO95 (ne1P ap_Fp60_b45)
    replace V69 := (V69.new hN93).only hO95 (Apart.ne1 ap_A67_b45)
    exact ⟨_, by omega, (k + 1), (writeF do_ ((l.getD k stp0).addr) ((l.getD k stp0).width) ((l.getD k stp0).value)).1, Fp60, A67, cap68, rfl, fr.sub ⟨rfl, rfl, rfl, rfl, rfl, rfl, rfl, trivial⟩, hF, hl, B4, O20, B27, O36, H61, V69, B48, by omega, (symP ap2_Fp60_Al), ap_Fp60_b1, ap_A67_b1, (symP ap2_Fp60_A18), ap2_A67_A18.symm, ap_Fp60_b24, ap_A67_b24, (symP ap2_Fp60_A34), ap2_A67_A34.symm, (symP ap2_A67_Fp60), ap_Fp60_b45, ap_A67_b45, gA_Fp60, gA_A67⟩
   ·refine Zna (z := zv4) (cs := rcE.arr rc0) (by kernel_rfl) fun b96 w97 hN98 B99 hb100 => ?_
    have ap_Al_b96 : Apart Al b96 := hl.apart hb100
    replace B4 := (B4.only hN64 ap_Fpo_b1).new hN66
    have ne_b1_b96 : NE b1 b96 := NE.mk (Nat.lt_of_lt_of_le B4.lt hb100)
    replace O20 := (O20.only hN64 (fun g h1 h2 => ap2_A18_Fpo g h1 h2)).new hN66
    have ap_A18_b96 : Apart A18 b96 := O20.apart hb100
    replace B27 := (B27.only hN64 ap_Fpo_b24).new hN66
    have ne_b24_b96 : NE b24 b96 := NE.mk (Nat.lt_of_lt_of_le B27.lt hb100)
    replace O36 := (O36.only hN64 (fun g h1 h2 => ap2_A34_Fpo g h1 h2)).new hN66
    have ap_A34_b96 : Apart A34 b96 := O36.apart hb100
    replace hVo := (hVo.only hN64 (fun g h1 h2 => (symP ap2_Fpo_Ao) g h1 h2)).new hN66
    have ap_Ao_b96 : Apart Ao b96 := hVo.apart hb100
    have ne_b45_b96 : NE b45 b96 := NE.mk (Nat.lt_of_lt_of_le B48.lt hb100)
    replace H61 := H61.new hN66
    have ap_Fp60_b96 : ¬ Fp60 b96 := H61.apart hb100
    replace hF := (hF.locP hN64 gA_Fpo).trNew hN66
    have g_b96 := Nat.le_trans hF.size hb100
    replace hl := hl.new hN98
    replace B48 := B48.new hN98
    refine Zhb ⟨hl, B48, trivial⟩ ?_
    refine Zh1 16 ?_
    replace hVo := hVo.new hN98
    refine Zk cf16 (ur_put hVo hdok_Ho ((l.getD k stp0).addr) (l.getD k stp0).ha ((l.getD k stp0).width) ((l.getD k stp0).value) (l.getD k stp0).hv) ?_
    rintro v w109 ⟨A101, cap102, rfl, V103, mv104, hN110⟩
    replace B4 := B4.new hN98
    have ap_A101_b1 : Apart A101 b1 := moved_apart mv104 ap_Ao_b1 B4.lt
    replace O20 := O20.new hN98
    have ap2_A101_A18 : Apart2 A101 A18 := moved_apart2 mv104 ap2_A18_Ao.symm fun _ hg => O20.lt hg
    replace B27 := B27.new hN98
    have ap_A101_b24 : Apart A101 b24 := moved_apart mv104 ap_Ao_b24 B27.lt
    replace O36 := O36.new hN98
    have ap2_A101_A34 : Apart2 A101 A34 := moved_apart2 mv104 ap2_A34_Ao.symm fun _ hg => O36.lt hg
    have ap_A101_b45 : Apart A101 b45 := moved_apart mv104 ap_Ao_b45 B48.lt
    replace H61 := H61.new hN98
    have ap2_A101_Fp60 : ∀ k, inA A101 k → Fp60 k → False := moved_apart2P mv104 (symP ap2_Fp60_Ao) fun _ hg => H61.lt hg
    have ap_A101_b96 : Apart A101 b96 := moved_apart mv104 ap_Ao_b96 B99.lt
    replace hF := hF.trNew hN98
    have gA_A101 := gA_moved hF mv104 gA_Ao
    replace hl := hl.new hN110
    replace B48 := B48.new hN110
    refine Zhb ⟨hl, B48, trivial⟩ ?_
    have hS9 := And.intro hl (And.intro B48 trivial)
    refine Zhm 17 hS9 ?_
    refine Zhx 18 hS9 ?_
    refine Zhx 19 hS9 ?_
    refine Zh1 21 ?_
    replace B99 := B99.new hN110
    refine ZsS sz42 (rcE.all _) B99 (rcE.size _) (rcE.size _) fun w111 hO112 hBq => ?_
    replace B99 := hBq
    clear hBq
    replace hl := hl.only hO112 (Apart.ne1 ap_Al_b96)
    replace B48 := B48.only hO112 ne_b45_b96
    refine Zhb ⟨hl, B48, trivial⟩ ?_
    refine Zhn ?_
    refine Ztl ?_
    refine Za ?_
    refine Znn ?_
    refine Zsq ?_
    refine ZhT (n := 16) 16 (fun w => View stpE w Al cl l ∧ Blk w b96 42 (rcE.arr (rav ((writeF do_ ((l.getD k stp0).addr) ((l.getD k stp0).width) ((l.getD k stp0).value)).1) A101 cap102)) ∧ True) ?_
    intro w113 hN114
    replace hl := hl.new hN114
    replace B99 := B99.new hN114
    have hS9 := And.intro hl (And.intro B99 trivial)
    refine Zhm 0 hS9 ?_
    refine Zhm 1 hS9 ?_
    refine Zhm 2 hS9 ?_
    refine Zht 3 rfl (.pointer (some ⟨g57, o58 + k * 27, none⟩)) hS9 (fun _ fr _ _ => x_indexV Try.underlying23 sz45 rfl (fr.ev rfl) hA59 (fr.ev rfl) (by first | omega | decide) rfl) ?_
    refine Zhf 4 fo45_4 hS9 ?_
    refine Zhl (v := .int .u32 ((l.getD k stp0).addr)) 5 pl32 hS9 (fun _ ⟨hl, _⟩ => (range_cell ((hl).elem hA59 k stp0 (by first | omega | decide)) 4 rfl rfl)) ?_
    refine Zhm 6 hS9 ?_
    refine Zhm 7 hS9 ?_
    refine Zht 8 rfl (.pointer (some ⟨g57, o58 + k * 27, none⟩)) hS9 (fun _ fr _ _ => x_indexV Try.underlying23 sz45 rfl (fr.ev rfl) hA59 (fr.ev rfl) (by first | omega | decide) rfl) ?_
    refine Zhf 9 fo45_2 hS9 ?_
    refine Zhl (v := .int .i64 ((l.getD k stp0).width)) 10 pl3 hS9 (fun _ ⟨hl, _⟩ => (range_cell ((hl).elem hA59 k stp0 (by first | omega | decide)) 2 rfl rfl)) ?_
    refine Zh1 11 ?_
    replace H61 := ((H61.new hN110).only hO112 (ne1P ap_Fp60_b96)).new hN114
    refine Zk cf17 (u_read H61 ((l.getD k stp0).addr) (l.getD k stp0).ha ((l.getD k stp0).width)) ?_
    rintro v w115 ⟨rfl, hN116⟩
    replace hl := hl.new hN116
    replace B99 := B99.new hN116
    refine Zhb ⟨hl, B99, trivial⟩ ?_
    have hS9 := And.intro hl (And.intro B99 trivial)
    refine Zhm 12 hS9 ?_
    refine Zhx 13 hS9 ?_
    refine Zhx 14 hS9 ?_
    refine Zha 15 hS9 ?_
    refine Zhn ?_
    refine Ztl ?_
    refine Za ?_
    refine Znn ?_
    refine Zsq ?_
    refine ZhT (n := 16) 16 (fun w => View stpE w Al cl l ∧ Blk w b96 42 (rcE.arr (rav ((writeF do_ ((l.getD k stp0).addr) ((l.getD k stp0).width) ((l.getD k stp0).value)).1) A101 cap102)) ∧ True) ?_
    intro w117 hN118
    replace hl := hl.new hN118
    replace B99 := B99.new hN118
    have hS9 := And.intro hl (And.intro B99 trivial)
    refine ZhE 0 rcE ag42 hS9 (fun _ ⟨_, B99, _⟩ => (B99.rangeE rcE)) ?_
    refine Zhm 1 hS9 ?_
    refine Zhm 2 hS9 ?_
    refine Zht 3 rfl (.pointer (some ⟨g57, o58 + k * 27, none⟩)) hS9 (fun _ fr _ _ => x_indexV Try.underlying23 sz45 rfl (fr.ev rfl) hA59 (fr.ev rfl) (by first | omega | decide) rfl) ?_
    refine Zhf 4 fo45_4 hS9 ?_
    refine Zhl (v := .int .u32 ((l.getD k stp0).addr)) 5 pl32 hS9 (fun _ ⟨hl, _⟩ => (range_cell ((hl).elem hA59 k stp0 (by first | omega | decide)) 4 rfl rfl)) ?_
    refine Zhm 6 hS9 ?_
    refine Zhm 7 hS9 ?_
    refine Zht 8 rfl (.pointer (some ⟨g57, o58 + k * 27, none⟩)) hS9 (fun _ fr _ _ => x_indexV Try.underlying23 sz45 rfl (fr.ev rfl) hA59 (fr.ev rfl) (by first | omega | decide) rfl) ?_
    refine Zhf 9 fo45_2 hS9 ?_
    refine Zhl (v := .int .i64 ((l.getD k stp0).width)) 10 pl3 hS9 (fun _ ⟨hl, _⟩ => (range_cell ((hl).elem hA59 k stp0 (by first | omega | decide)) 2 rfl rfl)) ?_
    refine Zh1 11 ?_
    replace V103 := (((V103.only hO112 (Apart.ne1 ap_A101_b96)).new hN114).new hN116).new hN118
    replace H61 := (H61.new hN116).new hN118
    refine Zk cf18 (ur_read V103 H61.2 ((l.getD k stp0).addr) (l.getD k stp0).ha ((l.getD k stp0).width)) ?_
    rintro v w119 ⟨rfl, hN120⟩
    replace hl := hl.new hN120
    replace B99 := B99.new hN120
    refine Zhb ⟨hl, B99, trivial⟩ ?_
    have hS9 := And.intro hl (And.intro B99 trivial)
    refine Zhm 12 hS9 ?_
    refine Zhx 13 hS9 ?_
    refine Zhx 14 hS9 ?_
    refine Zha 15 hS9 ?_
    refine Zhn ?_
    refine Ztl ?_
    refine Za ?_
    refine Znn ?_
    refine Zsq ?_
    refine Zsr ?_
    refine Zm ?_
    refine Zm ?_
    refine Zv (.bool false) (fun _ fr => x_neq rfl (fr.ev rfl) (fr.ev rfl) (by simp)) ?_
    refine Zm ?_
    refine Zm ?_
    refine Zm ?_
    refine Zv (.bool false) (fun _ fr => x_neq rfl (fr.ev rfl) (fr.ev rfl) (by simp)) ?_
    refine Zpf ?_
    refine Zm ?_
    refine Zm ?_
    refine Zm ?_
    refine Zv (.bool false) (fun _ fr => x_neq rfl (fr.ev rfl) (fr.ev rfl) (by simp)) ?_
    refine Zpf ?_
    refine Zm ?_
    refine Zm ?_
    refine ZE rcE ag42 (B99.rangeE rcE) ?_
    replace H61 := H61.new hN120
    replace V103 := V103.new hN120
    refine Zk cf19 (same_c H61 V103 (symP ap2_A101_Fp60)) ?_
    rintro v w121 ⟨rfl, hN122⟩
    refine Zv (.bool false) (fun _ fr => x_not rfl (fr.ev rfl) rfl) ?_
    refine Zpf ?_
    refine Znn ?_
    refine Zcf ?_
    refine Zsk ?_
    refine Znx ?_
    refine Zrg ?_
    replace B99 := B99.new hN122
    refine ZE rcE ag42 (B99.rangeE rcE) ?_
    replace B48 := ((((B48.new hN114).new hN116).new hN118).new hN120).new hN122
    refine ZsS sz42 (rcE.all _) B48 (rcE.size _) (rcE.size _) fun w123 hO124 hBq => ?_
    replace B48 := hBq
    clear hBq
    refine Znl ?_
    refine Zb ?_
    refine Znx ?_
    refine Zrg ?_
    refine Zm ?_
    refine Zv _ (fun _ fr => x_add rfl (fr.ev rfl) rfl (i64w (r := ((k + 1 : Nat) : Int)) (by omega) (by omega))) ?_
    refine Za ?_
    intro a fr
    refine wpList_nil ?_
    refine fx_next ?_
    replace B4 := (((((((B4.new hN110).only hO112 ne_b1_b96).new hN114).new hN116).new hN118).new hN120).new hN122).only hO124 ne_b1_b45
    replace O20 := (((((((O20.new hN110).only hO112 (Apart.ne1 ap_A18_b96)).new hN114).new hN116).new hN118).new hN120).new hN122).only hO124 (Apart.ne1 ap_A18_b45)
    replace B27 := (((((((B27.new hN110).only hO112 ne_b24_b96).new hN114).new hN116).new hN118).new hN120).new hN122).only hO124 ne_b24_b45
    replace O36 := (((((((O36.new hN110).only hO112 (Apart.ne1 ap_A34_b96)).new hN114).new hN116).new hN118).new hN120).new hN122).only hO124 (Apart.ne1 ap_A34_b45)
    replace hF := (((((((hF.trNew hN110).loc hO112 (.inr g_b96)).trNew hN114).trNew hN116).trNew hN118).trNew hN120).trNew hN122).loc hO124 (.inr g_b45)
    replace hl := (hl.new hN122).only hO124 (Apart.ne1 ap_Al_b45)
    replace H61 := (H61.new hN122).only hO124 (ne1P ap_Fp60_b45)
    replace V103 := (V103.new hN122).only hO124 (Apart.ne1 ap_A101_b45)
    exact ⟨_, by omega, (k + 1), (writeF do_ ((l.getD k stp0).addr) ((l.getD k stp0).width) ((l.getD k stp0).value)).1, Fp60, A101, cap102, rfl, fr.sub ⟨rfl, rfl, rfl, rfl, rfl, rfl, rfl, trivial⟩, hF, hl, B4, O20, B27, O36, H61, V103, B48, by omega, (symP ap2_Fp60_Al), ap_Fp60_b1, ap_A101_b1, (symP ap2_Fp60_A18), ap2_A101_A18.symm, ap_Fp60_b24, ap_A101_b24, (symP ap2_Fp60_A34), ap2_A101_A34.symm, (symP ap2_A101_Fp60), ap_Fp60_b45, ap_A101_b45, gA_Fp60, gA_A101⟩
  ·have hc54 := of_decide_eq_false hc54
   refine Zex ?_
   refine Zxt ?_
   refine Zxt ?_
   refine Zxx ?_
   refine Znx ?_
   refine Zsr ?_
   refine Zk cf11 (known_c _) ?_
   rintro v w125 ⟨rfl, hN126⟩
   refine Za ?_
   refine Znn ?_
   refine Zrt ?_
   refine Zre rfl [_] ⟨rfl, trivial⟩ ?_
   replace hF := hF.trNew hN126
   exact ⟨_, rfl, rfl, hF⟩
theorem bytes_c (b : B16) (sh : Bool) {w : World} {Al : Option Addr} {cl : Nat} {l : List Stp} (hl : View stpE w Al cl l) : Calls Try.prog 3 #[.agg (bsE.arr b), .bool sh, .slice Al l.length cl] w (Ret fun v w' => v = .bool true ∧ New w w') := by
  cases sh
  · exact bytes_e b hl
  · exact bytes_s b hl
end Go.Proofs.Ytflnlmibkbojcaa
namespace Go.Proofs.Ytflnlmibkbojcaa
open Go.RowKit Go.ChangeShapes Go.WideShapes Go.ChangeAt Go.Deep
section
variable {H : Type} {enc : TypeId × Value → H} {P : Program} {w : World} {base : Nat} {spare : Nat → Bool} {held : Bool} {fuel : Nat} {cs : List Value} {x : DataW H × List MemPlace}
theorem piece {q n : Nat} {a b : List Value} (h1 : (cs.drop q).take n = a) (h2 : cs.drop (q + n) = b) : cs.drop q = a ++ b := by
  rw [← h1, ← h2, ← List.drop_drop, List.take_append_drop]
theorem trod_ints {t e n : Nat} {k : IntKind} (ht : P.underlying t = some (.array n e)) (he : P.underlying e = some (.int k)) (hC : P.cellsOf e = 1) (hCt : P.cellsOf t = n) (h : DataW.trod enc P w base spare held fuel t cs = some x) :
    ∃ l : List Int, l.length = n ∧ cs = l.map (Value.int k) ∧ ∀ a ∈ l, (Lit.int k a).wf = true := by
  obtain ⟨xs, m, _, _, hl, hxl, hi⟩ := DataW.trod_array ht h
  rw [hC] at hi
  rw [hCt] at hl
  have hb : ∀ i, (h : i < cs.length) → ∃ a : Int, cs[i] = .int k a ∧ (Lit.int k a).wf = true := by
    intro i h
    have h2 := hi i (by omega)
    have e1 : (cs.drop (i * 1)).take 1 = [cs[i]] := by
      rw [Nat.mul_one, List.drop_eq_getElem_cons h]
      rfl
    rw [e1, List.getElem?_eq_getElem (show i < xs.length by omega)] at h2
    obtain ⟨a, e0, _, wa⟩ := DataW.trod_int he h2
    exact ⟨a, by simpa using e0, wa⟩
  obtain ⟨f, hf⟩ : ∃ f : (i : Fin cs.length) → Int, ∀ i : Fin cs.length, cs[i.1] = .int k (f i) ∧ (Lit.int k (f i)).wf = true := ⟨fun i => (hb i i.2).choose, fun i => (hb i i.2).choose_spec⟩
  refine ⟨List.ofFn f, by simp [hl], ?_, ?_⟩
  · apply List.ext_getElem
    · simp
    · intro i h1 h2
      rw [(hf ⟨i, h1⟩).1]
      simp
  · intro a ha
    obtain ⟨i, rfl⟩ := List.mem_ofFn.1 ha
    exact (hf i).2
theorem has_addr {r : Reach} {a : Addr} {e n : Nat} (h : w.has P r base a e n) : ∃ g o, a = ⟨g, o, none⟩ ∧ g < w.heap.size := by
  obtain ⟨_, h1, row, cells, h2, _⟩ := h
  obtain ⟨g, o, s⟩ := a
  subst h1
  refine ⟨g, o, rfl, ?_⟩
  unfold World.shape? at h2
  rcases Nat.lt_or_ge g w.heap.size with h | h
  · exact h
  · have : w.heap[g]? = none := Array.getElem?_eq_none h
    simp [this] at h2
theorem add_none (g o i : Nat) : (⟨g, o, none⟩ : Addr).add i = ⟨g, o + i, none⟩ := by
  unfold Addr.add
  by_cases h : i = 0 <;> simp [h]
theorem open_recs {α : Type} [DecidableEq α] {E : Enc P α} {OK : α → Prop} {t : TypeId} {r : Reach} {b0 : Nat} {v : Value} {d : DataW H} {p : List MemPlace} (ht : P.underlying t = some (.slice E.T)) (hC : P.cellsOf E.T = E.n)
    (hel : ∀ fuel cs x, DataW.trod enc P w base (fun _ => true) held fuel E.T cs = some x → ∃ m, OK m ∧ cs = E.cells m) (hv : Value.okWide P w r b0 t v) (h : DataW.Trod enc P w base (fun _ => true) held t v d p) :
    ∃ A cap l, v = .slice A l.length cap ∧ View E w A cap l ∧ ∀ m ∈ l, OK m := by
  obtain ⟨a0, len, cap, rfl⟩ := okWide_slice ht hv
  obtain ⟨fuel, hf⟩ := h
  rcases open_slice ht hf with ⟨hcs, _⟩ | ⟨a, l, c, m, n, D, Pl, hcs, _, hl, hm, hz, _, hcell⟩
  · simp [Value.cells] at hcs
    obtain ⟨rfl, rfl, rfl⟩ := hcs
    exact ⟨none, 0, [], rfl, View.nil, by simp⟩
  · simp [Value.cells] at hcs
    obtain ⟨rfl, rfl, rfl⟩ := hcs
    rw [if_pos rfl] at hz
    subst hz
    have hh : w.has P r b0 a E.T m := by
      unfold Value.okWide at hv
      rw [ht] at hv
      simp only [Cell.okWide, ht, Cell.ok] at hv
      exact hv.2.2
    obtain ⟨g, o, rfl, hg⟩ := has_addr hh
    rw [hC] at hcell
    have hb : ∀ i : Fin len, ∃ q : α, OK q ∧ w.rangeAt g (o + i.1 * E.n) (E.cells q) := by
      intro i
      obtain ⟨cs', h1, h2⟩ := hcell i.1 (by omega)
      obtain ⟨q, hq, rfl⟩ := hel _ _ _ h2
      obtain ⟨_, hcl, hat⟩ := World.cells?_some h1
      refine ⟨q, hq, fun j v hj => ?_⟩
      have hjl := (List.getElem?_eq_some_iff.1 hj).1
      have := hat j (by omega)
      rw [add_none, add_none] at this
      rw [this, hj]
    obtain ⟨f, hf⟩ : ∃ f : Fin len → α, ∀ i, OK (f i) ∧ w.rangeAt g (o + i.1 * E.n) (E.cells (f i)) := ⟨fun i => (hb i).choose, fun i => (hb i).choose_spec⟩
    refine ⟨some ⟨g, o, none⟩, m, List.ofFn f, by simp, ⟨by simp; omega, hm, .inr ⟨g, o, rfl, hg, fun j v hj => ?_⟩⟩, ?_⟩
    · have hjl := (List.getElem?_eq_some_iff.1 hj).1
      rw [flat_len, List.length_ofFn] at hjl
      have hn := E.pos
      have hq : j / E.n < len := (Nat.div_lt_iff_lt_mul hn).2 hjl
      have hr : j % E.n < E.n := Nat.mod_lt _ hn
      have hj2 : j / E.n * E.n + j % E.n = j := by rw [Nat.mul_comm]; exact Nat.div_add_mod j E.n
      have e1 := flat_drop (E := E) (List.ofFn f) (j / E.n) (by simpa using hq)
      have e2 : (E.cells (f ⟨j / E.n, hq⟩))[j % E.n]? = some v := by
        rw [List.getElem_ofFn] at e1
        rw [← e1, List.getElem?_take, if_pos hr, List.getElem?_drop, hj2]
        exact hj
      have := (hf ⟨j / E.n, hq⟩).2 (j % E.n) v e2
      rw [← this]
      show _ = w.cell? ⟨g, o + j / E.n * E.n + j % E.n, none⟩
      rw [Nat.add_assoc, hj2]
    · intro q hq
      obtain ⟨i, rfl⟩ := List.mem_ofFn.1 hq
      exact (hf i).1
end
end Go.Proofs.Ytflnlmibkbojcaa
namespace Go.Proofs.Ytflnlmibkbojcaa
open Go.RowKit Go.ChangeShapes Go.WideShapes Go.ChangeAt
section
variable {H : Type} {enc : TypeId × Value → H} {w : World} {base : Nat} {spare : Nat → Bool} {held : Bool} {fuel : Nat} {cs : List Value} {x : DataW H × List MemPlace}
theorem cellsMSG : Try.prog.cellsOf 35 = 20 := by kernel_rfl
theorem cellsSTEP : Try.prog.cellsOf 45 = 27 := by kernel_rfl
theorem cellsKIND : Try.prog.cellsOf 33 = 1 := by kernel_rfl
theorem cellsBOOL : Try.prog.cellsOf 4 = 1 := by kernel_rfl
theorem cellsU32 : Try.prog.cellsOf 32 = 1 := by kernel_rfl
theorem cellsARR : Try.prog.cellsOf 22 = 16 := by kernel_rfl
theorem cellsU8 : Try.prog.cellsOf 5 = 1 := by kernel_rfl
theorem cellsI64 : Try.prog.cellsOf 3 = 1 := by kernel_rfl
theorem wf_u32 {a : Int} (h : (Lit.int .u32 a).wf = true) : 0 ≤ a ∧ a < 4294967296 := by
  simp [Lit.wf, IntKind.min, IntKind.max, IntKind.signed, IntKind.bits] at h
  omega
theorem wf_u8 {a : Int} (h : (Lit.int .u8 a).wf = true) : 0 ≤ a ∧ a < 256 := by
  simp [Lit.wf, IntKind.min, IntKind.max, IntKind.signed, IntKind.bits] at h
  omega
theorem trod_msg (h : DataW.trod enc Try.prog w base spare held fuel 35 cs = some x) : ∃ m : Msg, True ∧ cs = m.cells := by
  obtain ⟨xs, n, _, _, hl, hlen, hg⟩ := DataW.trod_struct Try.underlying35 h
  rw [cellsMSG] at hl
  match xs, hlen with
  | [y0, y1, y2, y3, y4], _ =>
    have h0 : DataW.trod enc Try.prog w base spare held n 33 ((cs.drop 0).take (Try.prog.cellsOf 33)) = some y0 := hg 0 _ rfl
    rw [cellsKIND] at h0
    have h1 : DataW.trod enc Try.prog w base spare held n 3 ((cs.drop 1).take (Try.prog.cellsOf 3)) = some y1 := hg 1 _ rfl
    rw [cellsI64] at h1
    have h2 : DataW.trod enc Try.prog w base spare held n 3 ((cs.drop 2).take (Try.prog.cellsOf 3)) = some y2 := hg 2 _ rfl
    rw [cellsI64] at h2
    have h3 : DataW.trod enc Try.prog w base spare held n 32 ((cs.drop 3).take (Try.prog.cellsOf 32)) = some y3 := hg 3 _ rfl
    rw [cellsU32] at h3
    have h4 : DataW.trod enc Try.prog w base spare held n 22 ((cs.drop 4).take (Try.prog.cellsOf 22)) = some y4 := hg 4 _ rfl
    rw [cellsARR] at h4
    obtain ⟨a0, e0, _⟩ := DataW.trod_int Try.underlying33 h0
    obtain ⟨a1, e1, _⟩ := DataW.trod_int Try.underlying3 h1
    obtain ⟨a2, e2, _⟩ := DataW.trod_int Try.underlying3 h2
    obtain ⟨a3, e3, _, w3⟩ := DataW.trod_int Try.underlying32 h3
    obtain ⟨l, hll, e4, hw⟩ := trod_ints Try.underlying22 Try.underlying5 cellsU8 cellsARR h4
    refine ⟨⟨a0, a1, a2, a3, ⟨l, hll, fun a ha => wf_u8 (hw a ha)⟩, wf_u32 w3⟩, trivial, ?_⟩
    have p5 : cs.drop 20 = [] := List.drop_eq_nil_of_le (by omega)
    have p4 := piece e4 p5
    have p3 := piece e3 p4
    have p2 := piece e2 p3
    have p1 := piece e1 p2
    have p0 := piece e0 p1
    rw [List.drop_zero] at p0
    rw [p0]
    simp [Msg.cells]
theorem trod_stp (h : DataW.trod enc Try.prog w base spare held fuel 45 cs = some x) : ∃ m : Stp, True ∧ cs = m.cells := by
  obtain ⟨xs, n, _, _, hl, hlen, hg⟩ := DataW.trod_struct Try.underlying45 h
  rw [cellsSTEP] at hl
  match xs, hlen with
  | [y0, y1, y2, y3, y4, y5, y6, y7], _ =>
    have h0 : DataW.trod enc Try.prog w base spare held n 3 ((cs.drop 0).take (Try.prog.cellsOf 3)) = some y0 := hg 0 _ rfl
    rw [cellsI64] at h0
    have h1 : DataW.trod enc Try.prog w base spare held n 3 ((cs.drop 1).take (Try.prog.cellsOf 3)) = some y1 := hg 1 _ rfl
    rw [cellsI64] at h1
    have h2 : DataW.trod enc Try.prog w base spare held n 3 ((cs.drop 2).take (Try.prog.cellsOf 3)) = some y2 := hg 2 _ rfl
    rw [cellsI64] at h2
    have h3 : DataW.trod enc Try.prog w base spare held n 32 ((cs.drop 3).take (Try.prog.cellsOf 32)) = some y3 := hg 3 _ rfl
    rw [cellsU32] at h3
    have h4 : DataW.trod enc Try.prog w base spare held n 32 ((cs.drop 4).take (Try.prog.cellsOf 32)) = some y4 := hg 4 _ rfl
    rw [cellsU32] at h4
    have h5 : DataW.trod enc Try.prog w base spare held n 32 ((cs.drop 5).take (Try.prog.cellsOf 32)) = some y5 := hg 5 _ rfl
    rw [cellsU32] at h5
    have h6 : DataW.trod enc Try.prog w base spare held n 4 ((cs.drop 6).take (Try.prog.cellsOf 4)) = some y6 := hg 6 _ rfl
    rw [cellsBOOL] at h6
    have h7 : DataW.trod enc Try.prog w base spare held n 35 ((cs.drop 7).take (Try.prog.cellsOf 35)) = some y7 := hg 7 _ rfl
    rw [cellsMSG] at h7
    obtain ⟨a0, e0, _⟩ := DataW.trod_int Try.underlying3 h0
    obtain ⟨a1, e1, _⟩ := DataW.trod_int Try.underlying3 h1
    obtain ⟨a2, e2, _⟩ := DataW.trod_int Try.underlying3 h2
    obtain ⟨a3, e3, _, w3⟩ := DataW.trod_int Try.underlying32 h3
    obtain ⟨a4, e4, _, w4⟩ := DataW.trod_int Try.underlying32 h4
    obtain ⟨a5, e5, _, w5⟩ := DataW.trod_int Try.underlying32 h5
    obtain ⟨a6, e6, _⟩ := DataW.trod_bool Try.underlying4 h6
    obtain ⟨m7, -, e7⟩ := trod_msg h7
    refine ⟨⟨a0, a1, a2, a3, a4, a5, a6, m7, wf_u32 w3, wf_u32 w4, wf_u32 w5⟩, trivial, ?_⟩
    have p8 : cs.drop 27 = [] := List.drop_eq_nil_of_le (by omega)
    have p7 := piece e7 p8
    have p6 := piece e6 p7
    have p5 := piece e5 p6
    have p4 := piece e4 p5
    have p3 := piece e3 p4
    have p2 := piece e2 p3
    have p1 := piece e1 p2
    have p0 := piece e0 p1
    rw [List.drop_zero] at p0
    rw [p0]
    simp [Stp.cells]
structure Frm where
  sets : Int
  ways : Int
  deriving DecidableEq
def Frm.cells (q : Frm) : List Value := [.int .i64 q.sets, .int .i64 q.ways]
def StpsArg (w : World) (v : Value) : Prop := ∃ A cap l, v = .slice A l.length cap ∧ View stpE w A cap l
set_option maxRecDepth 100000 in
theorem open_stps {r : Reach} {b0 : Nat} {v : Value} {d : DataW H} {p : List MemPlace} (hv : Value.okWide Try.prog w r b0 23 v) (h : DataW.Trod enc Try.prog w base (fun _ => true) held 23 v d p) : StpsArg w v := by
  obtain ⟨A, cap, l, h1, h2, _⟩ := open_recs (E := stpE) (OK := fun _ => True) Try.underlying23 cellsSTEP (fun _ _ _ => trod_stp) hv h
  exact ⟨A, cap, l, h1, h2⟩
theorem okWide_array {P : Program} {w : World} {r : Reach} {base : Nat} {t e : TypeId} {n : Nat} {v : Value} (ht : P.underlying t = some (.array n e)) (h : Value.okWide P w r base t v) : ∃ cs, v = .agg cs ∧ cs.size = P.cellsOf t := by
  unfold Value.okWide at h
  rw [ht] at h
  cases v <;> simp_all
set_option maxRecDepth 100000 in
theorem open_b16 {r : Reach} {b0 : Nat} {v : Value} {d : DataW H} {p : List MemPlace} (hv : Value.okWide Try.prog w r b0 22 v) (h : DataW.Trod enc Try.prog w base (fun _ => true) held 22 v d p) : ∃ m : B16, True ∧ v = .agg (bsE.arr m) := by
  obtain ⟨cs, rfl, hsz⟩ := okWide_array Try.underlying22 hv
  obtain ⟨fuel, hf⟩ := h
  obtain ⟨l, hll, e, hw⟩ := trod_ints Try.underlying22 Try.underlying5 cellsU8 cellsARR hf
  refine ⟨⟨l, hll, fun a ha => wf_u8 (hw a ha)⟩, trivial, ?_⟩
  congr 1
  apply Array.toList_inj.1
  rw [bsE.toList]
  exact e
end
end Go.Proofs.Ytflnlmibkbojcaa
namespace Go.Proofs.Ytflnlmibkbojcaa
open Go.RowKit
set_option linter.unusedVariables false
theorem walk_CacheBytes (w : World) (v0 : Value) (hv0 : ∃ m : B16, True ∧ v0 = .agg (bsE.arr m)) (a1 : Bool) (v2 : Value) (hv2 : StpsArg w v2) : Calls Try.prog 3 #[v0, .bool a1, v2] w fun e w' => e = .returned (.bool true) ∧ Below w.heap.size w w' := by
  obtain ⟨m0, -, rfl⟩ := hv0
  obtain ⟨A2, c2, l2, rfl, hv2⟩ := hv2
  refine (bytes_c m0 a1 hv2).mono ?_
  rintro e w' ⟨v, rfl, rfl, hn⟩
  exact ⟨rfl, hn.nb⟩
end Go.Proofs.Ytflnlmibkbojcaa
