/-
  Part 6 of what the claim stands on: walks through the code, plain laws.
-/
import Derived.Test.YtflnlmibkbojcaaZAsks5
namespace Go.Proofs.Ytflnlmibkbojcaa
open Go.RowKit
def FillR (w : World) (v : Value) (w' : World) : Prop :=
  ∃ b Fp d A cap, v = .tuple #[.pointer (some ⟨b, 0, none⟩), .agg (rcE.arr (rav d A cap)), .bool true] ∧ CacAt w' Fp b d ∧ View lnE w' A cap (allL d.n d.L) ∧ (∀ k, Fp k → inA A k → False) ∧ (∀ g, Fp g → w.heap.size ≤ g) ∧ (∀ g, inA A g → w.heap.size ≤ g) ∧ New w w'
set_option maxRecDepth 100000 in
set_option maxHeartbeats 4000000 in
theorem filled_c (a9 b9 : Int) (w : World) : Calls Try.prog 22 #[.int .i64 a9, .int .i64 b9] w (Ret fun v w' => FillR w v w') := by
 have hF := Only.refl (fun _ => False) w
 refine Zen 97 Try.func22 ?_
 refine Zsr ?_
 refine Za ?_
 refine Zna (z := zv4) (cs := rcE.arr rc0) (by kernel_rfl) fun b1 w2 hN3 B4 hb5 => ?_
 have g_b1 := Nat.le_trans hF.size hb5
 refine Za ?_
 refine Znn ?_
 refine Zsr ?_
 refine Zk (args := #[.int .i64 0, .int .i64 1, .int .i64 2]) cf12 (u_new 0 1 2 (by omega) (by decide) _) ?_
 rintro v w10 ⟨b6, Fp7, rfl, H8, hb9, hN11⟩
 have ap_Fp7_b1 : ¬ Fp7 b1 := new_apartP hb9 B4.lt
 replace hF := hF.trNew hN3
 have gA_Fp7 := gA_newP hF hb9
 refine Zm ?_
 refine Zt ?_
 refine Zt ?_
 refine Za ?_
 refine Za ?_
 refine Znn ?_
 refine Zsr ?_
 refine Zv (.agg (rcE.arr (RC.mk 0 1 2 none 0 0 false 0 false false ln0))) (fun _ _ => x_build (cells := rcE.arr (RC.mk 0 1 2 none 0 0 false 0 false false ln0)) rfl (by kernel_rfl)) ?_
 refine Zna (z := zv4) (cs := rcE.arr rc0) (by kernel_rfl) fun b12 w13 hN14 B15 hb16 => ?_
 replace B4 := B4.new hN11
 have ne_b1_b12 : NE b1 b12 := NE.mk (Nat.lt_of_lt_of_le B4.lt hb16)
 have ap_Fp7_b12 : ¬ Fp7 b12 := H8.apart hb16
 replace hF := hF.trNew hN11
 have g_b12 := Nat.le_trans hF.size hb16
 refine ZsS sz42 (rcE.all _) B15 (rcE.size _) (rcE.size _) fun w17 hO18 hBq => ?_
 replace B15 := hBq
 clear hBq
 refine Znn ?_
 refine Zsq ?_
 replace B15 : Blk w17 b12 42 (rcE.arr (rav (CD.mk 0 1 2 [] none none) none 0)) := (by rw [rav_new]; exact B15)
 refine Zrg ?_
 refine Zm ?_
 refine Zv (.bool true) (fun _ fr => x_eql rfl (fr.ev rfl) rfl rfl) ?_
 refine Za ?_
 refine Znn ?_
 refine Zsr ?_
 refine Zm ?_
 refine Zm ?_
 intro a fr
 refine fx_build2 (E := intE) (p := a9) (q := b9) elInt (by decide) fr rfl rfl (by decide) rfl (fr.ev rfl) (fr.ev rfl) rfl rfl ?_
 clear fr a
 intro A19 w20 hN21 O22 hA23
 have hlen_A19 : ([a9, b9]).length = 2 := rfl
 replace H8 := (H8.new hN14).only hO18 (ne1P ap_Fp7_b12)
 have ap2_Fp7_A19 : ∀ k, Fp7 k → inA A19 k → False := symP (new_apart2P hA23 fun _ hg => H8.lt hg)
 have ap_A19_b12 : Apart A19 b12 := new_apart hA23 B15.lt
 refine Za ?_
 refine Znn ?_
 refine Zsq ?_
 refine Zsr ?_
 refine Za ?_
 refine Znn ?_
 refine Zbl ?_
 intro a fr
 replace B4 := ((B4.new hN14).only hO18 ne_b1_b12).new hN21
 replace hF := ((hF.trNew hN14).loc hO18 (.inr g_b12)).trNew hN21
 replace H8 := H8.new hN21
 replace B15 := B15.new hN21
 refine fx_loop (fun nM a wL => ∃ n : Nat, ∃ do_ : CD, ∃ Fpo : Nat → Prop, ∃ Ao : Option Addr, ∃ co : Nat, nM = 2 - n ∧ Fr (97, []) [(0, .int .i64 a9), (1, .int .i64 b9), (5, .pointer (some ⟨b1, 0, none⟩)), (7, .pointer (some ⟨b6, 0, none⟩)), (9, .pointer (some ⟨b12, 0, none⟩)), (10, .bool true), (11, .slice A19 2 2), (12, .int .i64 ((n : Nat) : Int))] a ∧ Only (fun _ => False) w wL ∧ Blk wL b1 42 (rcE.arr rc0) ∧ Own intE wL A19 2 ([a9, b9]) ∧ CacAt wL Fpo b6 do_ ∧ View lnE wL Ao co (allL do_.n do_.L) ∧ Blk wL b12 42 (rcE.arr (rav do_ Ao co)) ∧ n ≤ 2 ∧ (¬ Fpo b1) ∧ (Apart Ao b1) ∧ (∀ k, inA A19 k → Fpo k → False) ∧ (Apart2 A19 Ao) ∧ (∀ k, Fpo k → inA Ao k → False) ∧ (¬ Fpo b12) ∧ (Apart Ao b12) ∧ (∀ g, Fpo g → (fun _ => False) g ∨ w.heap.size ≤ g) ∧ (∀ g, inA Ao g → (fun _ => False) g ∨ w.heap.size ≤ g)) (n0 := _) ⟨0, (CD.mk 0 1 2 [] none none), Fp7, none, 0, rfl, fr.sub ⟨rfl, rfl, rfl, rfl, rfl, rfl, rfl, rfl, trivial⟩, hF, B4, O22, H8, (show View lnE _ none 0 (allL 1 []) by rw [allL_nil]; exact View.nil), B15, by omega, ap_Fp7_b1, (apart_none b1), (symP ap2_Fp7_A19), (fun k _ h => apart_none k h), (fun k _ h => apart_none k h), ap_Fp7_b12, (apart_none b12), gA_Fp7, gA_none⟩ ?_
 clear fr a
 rintro n25 a w24 ⟨n, do_, Fpo, Ao, co, rfl, fr, hF, B4, O22, Ho, hVo, B15, hn, ap_Fpo_b1, ap_Ao_b1, ap2_A19_Fpo, ap2_A19_Ao, ap2_Fpo_Ao, ap_Fpo_b12, ap_Ao_b12, gA_Fpo, gA_Ao⟩
 revert a
 refine Zsq ?_
 refine Zsr ?_
 refine Zm ?_
 refine Zv _ (fun _ fr => x_lss rfl (fr.ev rfl) rfl rfl) ?_
 refine Zm ?_
 refine Zy (decide (((n : Nat) : Int) < 2)) (.bool true) (fun _ fr _ => x_move rfl (fr.ev rfl)) ?_
 refine Zv (.bool ((decide (((n : Nat) : Int) < 2)) && true)) (fun _ fr => x_pick_and rfl (fr.ev rfl) (fun hb => ((fr.ev rfl)).trans (onlyIf_t (by simp_all))) (fun _ => rfl) rfl) ?_
 refine Znn ?_
 refine Zcd (fun hc26 => ?_) (fun hc26 => ?_)
 ·have hc26s := hc26
  try simp at hc26s
  refine Zsk ?_
  refine Znx ?_
  refine Zsq ?_
  refine Zbl ?_
  refine Zsq ?_
  refine Zsr ?_
  refine Zm ?_
  refine Zm ?_
  obtain ⟨g27, o28, hA29⟩ := (O22.view).some_ (by first | omega | decide)
  refine Zv (.pointer (some ⟨g27, o28 + n * 1, none⟩)) (fun _ fr => x_indexV Try.underlying123 sz3 rfl (fr.ev rfl) hA29 (fr.ev rfl) (by first | omega | decide) rfl) ?_
  refine Zd (v := .int .i64 (([a9, b9]).getD n 0)) pl3 (range_cell ((O22.view).elem hA29 n 0 (by first | omega | decide)) 0 rfl rfl) ?_
  refine Zv _ (fun _ fr => x_eql rfl (fr.ev rfl) rfl rfl) ?_
  refine Znn ?_
  refine Zcd (fun hc30 => ?_) (fun hc30 => ?_)
  ·have hc30 := of_decide_eq_true hc30
   refine Zex ?_
   refine Zxt ?_
   refine Zxx ?_
   refine Znx ?_
   refine Zrg ?_
   refine Zm ?_
   refine Zv _ (fun _ fr => x_add rfl (fr.ev rfl) rfl (i64w (r := ((n + 1 : Nat) : Int)) (by omega) (by omega))) ?_
   refine Za ?_
   intro a fr
   refine wpList_nil ?_
   refine fx_next ?_
   exact ⟨_, by omega, (n + 1), do_, Fpo, Ao, co, rfl, fr.sub ⟨rfl, rfl, rfl, rfl, rfl, rfl, rfl, rfl, trivial⟩, hF, B4, O22, Ho, hVo, B15, by omega, ap_Fpo_b1, ap_Ao_b1, ap2_A19_Fpo, ap2_A19_Ao, ap2_Fpo_Ao, ap_Fpo_b12, ap_Ao_b12, gA_Fpo, gA_Ao⟩
  ·have hc30 := of_decide_eq_false hc30
   refine Zsk ?_
   refine Znx ?_
   refine Zsr ?_
   refine Zm ?_
   refine Zv _ (fun _ fr => x_convert Try.underlying3 Try.underlying32 rfl (fr.ev rfl) (u32w (r := ((n : Nat) : Int)) rfl (by omega))) ?_
   refine Zv (.agg (stpE.arr (mkS 1 0 0 ((n : Nat) : Int) 0 0 false msg0))) (fun a fr => x_build (cells := stpE.arr (mkS 1 0 0 ((n : Nat) : Int) 0 0 false msg0)) rfl (by simp only [List.map_toArray, List.map_cons, List.map_nil, show a.eval (.tmp 40) = .int .u32 ((n : Nat) : Int) from fr.ev rfl]; kernel_rfl)) ?_
   refine Zm ?_
   refine Zv _ (fun _ fr => x_convert Try.underlying3 Try.underlying32 rfl (fr.ev rfl) (u32w (r := ((n : Nat) : Int)) rfl (by omega))) ?_
   refine Zv (.agg (msgE.arr (mkM 9 4 0 ((n : Nat) : Int)))) (fun a fr => x_build (cells := msgE.arr (mkM 9 4 0 ((n : Nat) : Int))) rfl (by simp only [List.map_toArray, List.map_cons, List.map_nil, show a.eval (.tmp 43) = .int .u32 ((n : Nat) : Int) from fr.ev rfl]; kernel_rfl)) ?_
   refine Zv (.agg (stpE.arr (mkS 2 0 0 0 0 0 false (mkM 9 4 0 ((n : Nat) : Int))))) (fun a fr => x_build (cells := stpE.arr (mkS 2 0 0 0 0 0 false (mkM 9 4 0 ((n : Nat) : Int)))) rfl (by simp only [List.map_toArray, List.map_cons, List.map_nil, show a.eval (.tmp 44) = .agg (msgE.arr (mkM 9 4 0 ((n : Nat) : Int))) from fr.ev rfl]; kernel_rfl)) ?_
   refine Zv (.agg (stpE.arr (mkS 5 0 4 0 0 0 false msg0))) (fun _ _ => x_build (cells := stpE.arr (mkS 5 0 4 0 0 0 false msg0)) rfl (by kernel_rfl)) ?_
   intro a fr
   refine fx_build3 (E := stpE) (p := (mkS 1 0 0 ((n : Nat) : Int) 0 0 false msg0)) (q := (mkS 2 0 0 0 0 0 false (mkM 9 4 0 ((n : Nat) : Int)))) (r := (mkS 5 0 4 0 0 0 false msg0)) elStp (by decide) fr rfl rfl (by decide) rfl (fr.ev rfl) (fr.ev rfl) (fr.ev rfl) rfl rfl rfl ?_
   clear fr a
   intro A31 w32 hN33 O34 hA35
   have hlen_A31 : ([(mkS 1 0 0 ((n : Nat) : Int) 0 0 false msg0), (mkS 2 0 0 0 0 0 false (mkM 9 4 0 ((n : Nat) : Int))), (mkS 5 0 4 0 0 0 false msg0)]).length = 3 := rfl
   have ap_A31_b1 : Apart A31 b1 := new_apart hA35 B4.lt
   have ap2_A19_A31 : Apart2 A19 A31 := (new_apart2 hA35 fun _ hg => O22.lt hg).symm
   have ap2_Fpo_A31 : ∀ k, Fpo k → inA A31 k → False := symP (new_apart2P hA35 fun _ hg => Ho.lt hg)
   have ap2_Ao_A31 : Apart2 Ao A31 := (new_apart2 hA35 fun _ hg => hVo.lt hg).symm
   have ap_A31_b12 : Apart A31 b12 := new_apart hA35 B15.lt
   have gA_A31 := gA_new hF hA35
   refine Za ?_
   refine Znn ?_
   refine Zsq ?_
   refine Zsr ?_
   refine Zm ?_
   refine Zm ?_
   refine Zv (.pointer (some ⟨g27, o28 + n * 1, none⟩)) (fun _ fr => x_indexV Try.underlying123 sz3 rfl (fr.ev rfl) hA29 (fr.ev rfl) (by first | omega | decide) rfl) ?_
   replace O22 := O22.new hN33
   refine Zd (v := .int .i64 (([a9, b9]).getD n 0)) pl3 (range_cell ((O22.view).elem hA29 n 0 (by first | omega | decide)) 0 rfl rfl) ?_
   refine Zv _ (fun _ fr => x_eql rfl (fr.ev rfl) rfl rfl) ?_
   refine Znn ?_
   refine Zcd (fun hc36 => ?_) (fun hc36 => ?_)
   ·have hc36 := of_decide_eq_true hc36
    refine Zrg ?_
    refine Zm ?_
    obtain ⟨g37, o38, hA39⟩ := (O34.view).some_ (by first | omega | decide)
    refine Zv (.pointer (some ⟨g37, o38 + 1 * 27, none⟩)) (fun _ fr => x_indexV Try.underlying23 sz45 rfl (fr.ev rfl) hA39 rfl (by first | omega | decide) rfl) ?_
    refine Zf fo45_7 ?_
    refine Zf fo35_0 ?_
    intro a fr
    refine fx_storeEl (E := stpE) (d := stp0) (q := 7) (x' := { (([(mkS 1 0 0 ((n : Nat) : Int) 0 0 false msg0), (mkS 2 0 0 0 0 0 false (mkM 9 4 0 ((n : Nat) : Int))), (mkS 5 0 4 0 0 0 false msg0)]).getD 1 stp0) with msg := { (([(mkS 1 0 0 ((n : Nat) : Int) 0 0 false msg0), (mkS 2 0 0 0 0 0 false (mkM 9 4 0 ((n : Nat) : Int))), (mkS 5 0 4 0 0 0 false msg0)]).getD 1 stp0).msg with kind := 8 } }) sz33 rfl rfl rfl hA39 O34 (by omega) (by decide) (fr.ev rfl) rfl rfl rfl rfl fun w40 hO41 hBq => ?_
    revert a
    replace O34 := hBq
    clear hBq
    have hls42 : (([(mkS 1 0 0 ((n : Nat) : Int) 0 0 false msg0), (mkS 2 0 0 0 0 0 false (mkM 9 4 0 ((n : Nat) : Int))), (mkS 5 0 4 0 0 0 false msg0)]).set 1 { (([(mkS 1 0 0 ((n : Nat) : Int) 0 0 false msg0), (mkS 2 0 0 0 0 0 false (mkM 9 4 0 ((n : Nat) : Int))), (mkS 5 0 4 0 0 0 false msg0)]).getD 1 stp0) with msg := { (([(mkS 1 0 0 ((n : Nat) : Int) 0 0 false msg0), (mkS 2 0 0 0 0 0 false (mkM 9 4 0 ((n : Nat) : Int))), (mkS 5 0 4 0 0 0 false msg0)]).getD 1 stp0).msg with kind := 8 } }).length = ([(mkS 1 0 0 ((n : Nat) : Int) 0 0 false msg0), (mkS 2 0 0 0 0 0 false (mkM 9 4 0 ((n : Nat) : Int))), (mkS 5 0 4 0 0 0 false msg0)]).length := List.length_set
    refine Znn ?_
    refine Zsq ?_
    refine Zsr ?_
    refine Zm ?_
    refine Zm ?_
    refine Zv (.pointer (some ⟨g27, o28 + n * 1, none⟩)) (fun _ fr => x_indexV Try.underlying123 sz3 rfl (fr.ev rfl) hA29 (fr.ev rfl) (by first | omega | decide) rfl) ?_
    replace O22 := O22.only hO41 (fun g h1 h2 => ap2_A19_A31 g h1 h2)
    refine Zd (v := .int .i64 (([a9, b9]).getD n 0)) pl3 (range_cell ((O22.view).elem hA29 n 0 (by first | omega | decide)) 0 rfl rfl) ?_
    refine Zv (.bool false) (fun _ fr => x_eql rfl (fr.ev rfl) rfl (decide_eq_false (by omega))) ?_
    refine Znn ?_
    refine Zcf ?_
    refine Zsk ?_
    refine Znx ?_
    refine Zsq ?_
    have hl3 : (([(mkS 1 0 0 ((n : Nat) : Int) 0 0 false msg0), (mkS 2 0 0 0 0 0 false (mkM 9 4 0 ((n : Nat) : Int))), (mkS 5 0 4 0 0 0 false msg0)]).set 1 { (([(mkS 1 0 0 ((n : Nat) : Int) 0 0 false msg0), (mkS 2 0 0 0 0 0 false (mkM 9 4 0 ((n : Nat) : Int))), (mkS 5 0 4 0 0 0 false msg0)]).getD 1 stp0) with msg := { (([(mkS 1 0 0 ((n : Nat) : Int) 0 0 false msg0), (mkS 2 0 0 0 0 0 false (mkM 9 4 0 ((n : Nat) : Int))), (mkS 5 0 4 0 0 0 false msg0)]).getD 1 stp0).msg with kind := 8 } }).length = 3 := rfl
    refine Zrg ?_
    refine Za ?_
    refine Znn ?_
    refine Zbl ?_
    intro a fr
    replace B4 := (B4.new hN33).only hO41 ap_A31_b1
    replace Ho := (Ho.new hN33).only hO41 (fun g h1 h2 => ap2_Fpo_A31 g h1 h2)
    replace hVo := (hVo.new hN33).only hO41 (fun g h1 h2 => ap2_Ao_A31 g h1 h2)
    replace B15 := (B15.new hN33).only hO41 ap_A31_b12
    replace hF := (hF.trNew hN33).locA hO41 gA_A31
    refine fx_loop (fun nM a wL => ∃ i : Nat, ∃ di : CD, ∃ Fpi : Nat → Prop, ∃ Ai : Option Addr, ∃ ci : Nat, nM = 3 - i ∧ Fr (97, []) [(0, .int .i64 a9), (1, .int .i64 b9), (5, .pointer (some ⟨b1, 0, none⟩)), (7, .pointer (some ⟨b6, 0, none⟩)), (9, .pointer (some ⟨b12, 0, none⟩)), (10, .bool true), (11, .slice A19 2 2), (12, .int .i64 ((n : Nat) : Int)), (13, .slice A31 3 3), (14, .int .i64 ((i : Nat) : Int))] a ∧ Only (fun _ => False) w wL ∧ Blk wL b1 42 (rcE.arr rc0) ∧ Own intE wL A19 2 ([a9, b9]) ∧ Own stpE wL A31 3 (([(mkS 1 0 0 ((n : Nat) : Int) 0 0 false msg0), (mkS 2 0 0 0 0 0 false (mkM 9 4 0 ((n : Nat) : Int))), (mkS 5 0 4 0 0 0 false msg0)]).set 1 { (([(mkS 1 0 0 ((n : Nat) : Int) 0 0 false msg0), (mkS 2 0 0 0 0 0 false (mkM 9 4 0 ((n : Nat) : Int))), (mkS 5 0 4 0 0 0 false msg0)]).getD 1 stp0) with msg := { (([(mkS 1 0 0 ((n : Nat) : Int) 0 0 false msg0), (mkS 2 0 0 0 0 0 false (mkM 9 4 0 ((n : Nat) : Int))), (mkS 5 0 4 0 0 0 false msg0)]).getD 1 stp0).msg with kind := 8 } }) ∧ CacAt wL Fpi b6 di ∧ View lnE wL Ai ci (allL di.n di.L) ∧ Blk wL b12 42 (rcE.arr (rav di Ai ci)) ∧ i ≤ 3 ∧ (¬ Fpi b1) ∧ (Apart Ai b1) ∧ (∀ k, inA A19 k → Fpi k → False) ∧ (Apart2 A19 Ai) ∧ (∀ k, inA A31 k → Fpi k → False) ∧ (Apart2 A31 Ai) ∧ (∀ k, Fpi k → inA Ai k → False) ∧ (¬ Fpi b12) ∧ (Apart Ai b12) ∧ (∀ g, Fpi g → (fun _ => False) g ∨ w.heap.size ≤ g) ∧ (∀ g, inA Ai g → (fun _ => False) g ∨ w.heap.size ≤ g)) (n0 := _) ⟨0, do_, Fpo, Ao, co, rfl, fr.sub ⟨rfl, rfl, rfl, rfl, rfl, rfl, rfl, rfl, rfl, rfl, trivial⟩, hF, B4, O22, O34, Ho, hVo, B15, by omega, ap_Fpo_b1, ap_Ao_b1, ap2_A19_Fpo, ap2_A19_Ao, (symP ap2_Fpo_A31), ap2_Ao_A31.symm, ap2_Fpo_Ao, ap_Fpo_b12, ap_Ao_b12, gA_Fpo, gA_Ao⟩ ?_
    clear fr a
    rintro n44 a w43 ⟨i, di, Fpi, Ai, ci, rfl, fr, hF, B4, O22, O34, Hi, hVi, B15, hi, ap_Fpi_b1, ap_Ai_b1, ap2_A19_Fpi, ap2_A19_Ai, ap2_A31_Fpi, ap2_A31_Ai, ap2_Fpi_Ai, ap_Fpi_b12, ap_Ai_b12, gA_Fpi, gA_Ai⟩
    revert a
    refine Zsq ?_
    refine Zsr ?_
    refine Zm ?_
    refine Zm ?_
    refine Zv _ (fun _ fr => x_len Try.underlying23 rfl (fr.ev rfl)) ?_
    refine Zv _ (fun _ fr => x_lss rfl (fr.ev rfl) (fr.ev rfl) rfl) ?_
    refine Zm ?_
    refine Zy (decide (((i : Nat) : Int) < ((3 : Nat) : Int))) (.bool true) (fun _ fr _ => x_move rfl (fr.ev rfl)) ?_
    refine Zv (.bool ((decide (((i : Nat) : Int) < ((3 : Nat) : Int))) && true)) (fun _ fr => x_pick_and rfl (fr.ev rfl) (fun hb => ((fr.ev rfl)).trans (onlyIf_t (by simp_all))) (fun _ => rfl) rfl) ?_
    refine Znn ?_
    refine Zcd (fun hc45 => ?_) (fun hc45 => ?_)
    ·have hc45s := hc45
     try simp at hc45s
     refine Zsk ?_
     refine Znx ?_
     refine Zsq ?_
     refine Zbl ?_
     refine Zsq ?_
     refine ZhT (n := 12) 12 (fun w => Own stpE w A31 3 (([(mkS 1 0 0 ((n : Nat) : Int) 0 0 false msg0), (mkS 2 0 0 0 0 0 false (mkM 9 4 0 ((n : Nat) : Int))), (mkS 5 0 4 0 0 0 false msg0)]).set 1 { (([(mkS 1 0 0 ((n : Nat) : Int) 0 0 false msg0), (mkS 2 0 0 0 0 0 false (mkM 9 4 0 ((n : Nat) : Int))), (mkS 5 0 4 0 0 0 false msg0)]).getD 1 stp0) with msg := { (([(mkS 1 0 0 ((n : Nat) : Int) 0 0 false msg0), (mkS 2 0 0 0 0 0 false (mkM 9 4 0 ((n : Nat) : Int))), (mkS 5 0 4 0 0 0 false msg0)]).getD 1 stp0).msg with kind := 8 } }) ∧ Blk w b12 42 (rcE.arr (rav di Ai ci)) ∧ True) ?_
     intro w46 hN47
     replace O34 := O34.new hN47
     replace B15 := B15.new hN47
     have hS9 := And.intro O34 (And.intro B15 trivial)
     refine Zhm 0 hS9 ?_
     refine ZhE 1 rcE ag42 hS9 (fun _ ⟨_, B15, _⟩ => (B15.rangeE rcE)) ?_
     refine Zhm 2 hS9 ?_
     refine Zhm 3 hS9 ?_
     refine Zht 4 rfl (.pointer (some ⟨g37, o38 + i * 27, none⟩)) hS9 (fun _ fr _ _ => x_indexV Try.underlying23 sz45 rfl (fr.ev rfl) hA39 (fr.ev rfl) (by first | omega | decide) rfl) ?_
     refine ZhE 5 stpE ag45 hS9 (fun _ ⟨O34, _⟩ => ((O34.view).elem hA39 i stp0 (by omega))) ?_
     refine Zh2 6 10 ?_ ?_
     ·replace Hi := Hi.new hN47
      replace hVi := hVi.new hN47
      refine Zk cf21 (does_c Hi hVi ap2_Fpi_Ai ((([(mkS 1 0 0 ((n : Nat) : Int) 0 0 false msg0), (mkS 2 0 0 0 0 0 false (mkM 9 4 0 ((n : Nat) : Int))), (mkS 5 0 4 0 0 0 false msg0)]).set 1 { (([(mkS 1 0 0 ((n : Nat) : Int) 0 0 false msg0), (mkS 2 0 0 0 0 0 false (mkM 9 4 0 ((n : Nat) : Int))), (mkS 5 0 4 0 0 0 false msg0)]).getD 1 stp0) with msg := { (([(mkS 1 0 0 ((n : Nat) : Int) 0 0 false msg0), (mkS 2 0 0 0 0 0 false (mkM 9 4 0 ((n : Nat) : Int))), (mkS 5 0 4 0 0 0 false msg0)]).getD 1 stp0).msg with kind := 8 } }).getD i stp0)) ?_
      rintro v w55 ⟨A48, cap49, Fp50, rfl, H51, V52, ap2_Fp50_A48, mv53, mA54, hN56⟩
      replace B4 := B4.new hN47
      have ap_A48_b1 : Apart A48 b1 := moved_apart mA54 ap_Ai_b1 B4.lt
      replace O22 := O22.new hN47
      have ap2_A48_A19 : Apart2 A48 A19 := moved_apart2 mA54 ap2_A19_Ai.symm fun _ hg => O22.lt hg
      have ap2_A48_A31 : Apart2 A48 A31 := moved_apart2 mA54 ap2_A31_Ai.symm fun _ hg => O34.lt hg
      have ap_A48_b12 : Apart A48 b12 := moved_apart mA54 ap_Ai_b12 B15.lt
      replace hF := hF.trNew hN47
      have gA_A48 := gA_moved hF mA54 gA_Ai
      have ap_Fp50_b1 : ¬ Fp50 b1 := moved_apartP mv53 ap_Fpi_b1 B4.lt
      have ap2_Fp50_A19 : ∀ k, Fp50 k → inA A19 k → False := moved_apart2P mv53 (symP ap2_A19_Fpi) fun _ hg => O22.lt hg
      have ap2_Fp50_A31 : ∀ k, Fp50 k → inA A31 k → False := moved_apart2P mv53 (symP ap2_A31_Fpi) fun _ hg => O34.lt hg
      have ap_Fp50_b12 : ¬ Fp50 b12 := moved_apartP mv53 ap_Fpi_b12 B15.lt
      have gA_Fp50 := gA_movedP hF mv53 gA_Fpi
      have hdok_Hi := Hi.2
      clear Hi
      replace O34 := O34.only hN56 (fun g h1 h2 => ap2_A31_Fpi g h1 h2)
      replace B15 := B15.only hN56 ap_Fpi_b12
      refine Zhb ⟨O34, B15, trivial⟩ ?_
      have hS9 := And.intro O34 (And.intro B15 trivial)
      refine Zhm 7 hS9 ?_
      refine Zhx 8 hS9 ?_
      refine Zhx 9 hS9 ?_
      refine Zh1 10 ?_
      refine Zna (z := zv4) (cs := rcE.arr rc0) (by kernel_rfl) fun b57 w58 hN59 B60 hb61 => ?_
      replace B4 := B4.only hN56 ap_Fpi_b1
      have ne_b1_b57 : NE b1 b57 := NE.mk (Nat.lt_of_lt_of_le B4.lt hb61)
      replace O22 := O22.only hN56 (fun g h1 h2 => ap2_A19_Fpi g h1 h2)
      have ap_A19_b57 : Apart A19 b57 := O22.apart hb61
      have ap_A31_b57 : Apart A31 b57 := O34.apart hb61
      have ne_b12_b57 : NE b12 b57 := NE.mk (Nat.lt_of_lt_of_le B15.lt hb61)
      have ap_Fp50_b57 : ¬ Fp50 b57 := H51.apart hb61
      have ap_A48_b57 : Apart A48 b57 := V52.apart hb61
      replace hF := hF.locP hN56 gA_Fpi
      have g_b57 := Nat.le_trans hF.size hb61
      replace O34 := O34.new hN59
      replace B15 := B15.new hN59
      refine Zhb ⟨O34, B15, trivial⟩ ?_
      refine Zh1 11 ?_
      refine ZsS sz42 (rcE.all _) B60 (rcE.size _) (rcE.size _) fun w62 hO63 hBq => ?_
      replace B60 := hBq
      clear hBq
      replace O34 := O34.only hO63 (Apart.ne1 ap_A31_b57)
      replace B15 := B15.only hO63 ne_b12_b57
      refine Zhb ⟨O34, B15, trivial⟩ ?_
      refine Zhn ?_
      refine Ztl ?_
      refine Za ?_
      refine Znn ?_
      refine Zrg ?_
      refine ZE rcE ag42 (B60.rangeE rcE) ?_
      refine Zm ?_
      refine ZsS sz42 (rcE.all _) B15 (rcE.size _) (rcE.size _) fun w64 hO65 hBq => ?_
      replace B15 := hBq
      clear hBq
      refine Za ?_
      refine Znl ?_
      refine Zb ?_
      refine Znx ?_
      refine Zrg ?_
      refine Zm ?_
      refine Zv _ (fun _ fr => x_add rfl (fr.ev rfl) rfl (i64w (r := ((i + 1 : Nat) : Int)) (by omega) (by omega))) ?_
      refine Za ?_
      intro a fr
      refine wpList_nil ?_
      refine fx_next ?_
      replace B4 := ((B4.new hN59).only hO63 ne_b1_b57).only hO65 ne_b1_b12
      replace O22 := ((O22.new hN59).only hO63 (Apart.ne1 ap_A19_b57)).only hO65 (Apart.ne1 ap_A19_b12)
      replace H51 := ((H51.new hN59).only hO63 (ne1P ap_Fp50_b57)).only hO65 (ne1P ap_Fp50_b12)
      replace V52 := ((V52.new hN59).only hO63 (Apart.ne1 ap_A48_b57)).only hO65 (Apart.ne1 ap_A48_b12)
      replace hF := ((hF.trNew hN59).loc hO63 (.inr g_b57)).loc hO65 (.inr g_b12)
      replace O34 := O34.only hO65 (Apart.ne1 ap_A31_b12)
      exact ⟨_, by omega, (i + 1), (stepF di ((([(mkS 1 0 0 ((n : Nat) : Int) 0 0 false msg0), (mkS 2 0 0 0 0 0 false (mkM 9 4 0 ((n : Nat) : Int))), (mkS 5 0 4 0 0 0 false msg0)]).set 1 { (([(mkS 1 0 0 ((n : Nat) : Int) 0 0 false msg0), (mkS 2 0 0 0 0 0 false (mkM 9 4 0 ((n : Nat) : Int))), (mkS 5 0 4 0 0 0 false msg0)]).getD 1 stp0) with msg := { (([(mkS 1 0 0 ((n : Nat) : Int) 0 0 false msg0), (mkS 2 0 0 0 0 0 false (mkM 9 4 0 ((n : Nat) : Int))), (mkS 5 0 4 0 0 0 false msg0)]).getD 1 stp0).msg with kind := 8 } }).getD i stp0)), Fp50, A48, cap49, rfl, fr.sub ⟨rfl, rfl, rfl, rfl, rfl, rfl, rfl, rfl, rfl, rfl, trivial⟩, hF, B4, O22, O34, H51, V52, B15, by omega, ap_Fp50_b1, ap_A48_b1, (symP ap2_Fp50_A19), ap2_A48_A19.symm, (symP ap2_Fp50_A31), ap2_A48_A31.symm, ap2_Fp50_A48, ap_Fp50_b12, ap_A48_b12, gA_Fp50, gA_A48⟩
     ·refine Zna (z := zv4) (cs := rcE.arr rc0) (by kernel_rfl) fun b66 w67 hN68 B69 hb70 => ?_
      replace B4 := B4.new hN47
      have ne_b1_b66 : NE b1 b66 := NE.mk (Nat.lt_of_lt_of_le B4.lt hb70)
      replace O22 := O22.new hN47
      have ap_A19_b66 : Apart A19 b66 := O22.apart hb70
      have ap_A31_b66 : Apart A31 b66 := O34.apart hb70
      replace Hi := Hi.new hN47
      have ap_Fpi_b66 : ¬ Fpi b66 := Hi.apart hb70
      replace hVi := hVi.new hN47
      have ap_Ai_b66 : Apart Ai b66 := hVi.apart hb70
      have ne_b12_b66 : NE b12 b66 := NE.mk (Nat.lt_of_lt_of_le B15.lt hb70)
      replace hF := hF.trNew hN47
      have g_b66 := Nat.le_trans hF.size hb70
      replace O34 := O34.new hN68
      replace B15 := B15.new hN68
      refine Zhb ⟨O34, B15, trivial⟩ ?_
      refine Zh1 6 ?_
      replace Hi := Hi.new hN68
      replace hVi := hVi.new hN68
      refine Zk cf21 (does_c Hi hVi ap2_Fpi_Ai ((([(mkS 1 0 0 ((n : Nat) : Int) 0 0 false msg0), (mkS 2 0 0 0 0 0 false (mkM 9 4 0 ((n : Nat) : Int))), (mkS 5 0 4 0 0 0 false msg0)]).set 1 { (([(mkS 1 0 0 ((n : Nat) : Int) 0 0 false msg0), (mkS 2 0 0 0 0 0 false (mkM 9 4 0 ((n : Nat) : Int))), (mkS 5 0 4 0 0 0 false msg0)]).getD 1 stp0) with msg := { (([(mkS 1 0 0 ((n : Nat) : Int) 0 0 false msg0), (mkS 2 0 0 0 0 0 false (mkM 9 4 0 ((n : Nat) : Int))), (mkS 5 0 4 0 0 0 false msg0)]).getD 1 stp0).msg with kind := 8 } }).getD i stp0)) ?_
      rintro v w78 ⟨A71, cap72, Fp73, rfl, H74, V75, ap2_Fp73_A71, mv76, mA77, hN79⟩
      replace B4 := B4.new hN68
      have ap_A71_b1 : Apart A71 b1 := moved_apart mA77 ap_Ai_b1 B4.lt
      replace O22 := O22.new hN68
      have ap2_A71_A19 : Apart2 A71 A19 := moved_apart2 mA77 ap2_A19_Ai.symm fun _ hg => O22.lt hg
      have ap2_A71_A31 : Apart2 A71 A31 := moved_apart2 mA77 ap2_A31_Ai.symm fun _ hg => O34.lt hg
      have ap_A71_b12 : Apart A71 b12 := moved_apart mA77 ap_Ai_b12 B15.lt
      have ap_A71_b66 : Apart A71 b66 := moved_apart mA77 ap_Ai_b66 B69.lt
      replace hF := hF.trNew hN68
      have gA_A71 := gA_moved hF mA77 gA_Ai
      have ap_Fp73_b1 : ¬ Fp73 b1 := moved_apartP mv76 ap_Fpi_b1 B4.lt
      have ap2_Fp73_A19 : ∀ k, Fp73 k → inA A19 k → False := moved_apart2P mv76 (symP ap2_A19_Fpi) fun _ hg => O22.lt hg
      have ap2_Fp73_A31 : ∀ k, Fp73 k → inA A31 k → False := moved_apart2P mv76 (symP ap2_A31_Fpi) fun _ hg => O34.lt hg
      have ap_Fp73_b12 : ¬ Fp73 b12 := moved_apartP mv76 ap_Fpi_b12 B15.lt
      have ap_Fp73_b66 : ¬ Fp73 b66 := moved_apartP mv76 ap_Fpi_b66 B69.lt
      have gA_Fp73 := gA_movedP hF mv76 gA_Fpi
      have hdok_Hi := Hi.2
      clear Hi
      replace O34 := O34.only hN79 (fun g h1 h2 => ap2_A31_Fpi g h1 h2)
      replace B15 := B15.only hN79 ap_Fpi_b12
      refine Zhb ⟨O34, B15, trivial⟩ ?_
      have hS9 := And.intro O34 (And.intro B15 trivial)
      refine Zhm 7 hS9 ?_
      refine Zhx 8 hS9 ?_
      refine Zhx 9 hS9 ?_
      refine Zh1 11 ?_
      replace B69 := B69.only hN79 ap_Fpi_b66
      refine ZsS sz42 (rcE.all _) B69 (rcE.size _) (rcE.size _) fun w80 hO81 hBq => ?_
      replace B69 := hBq
      clear hBq
      replace O34 := O34.only hO81 (Apart.ne1 ap_A31_b66)
      replace B15 := B15.only hO81 ne_b12_b66
      refine Zhb ⟨O34, B15, trivial⟩ ?_
      refine Zhn ?_
      refine Ztl ?_
      refine Za ?_
      refine Znn ?_
      refine Zrg ?_
      refine ZE rcE ag42 (B69.rangeE rcE) ?_
      refine Zm ?_
      refine ZsS sz42 (rcE.all _) B15 (rcE.size _) (rcE.size _) fun w82 hO83 hBq => ?_
      replace B15 := hBq
      clear hBq
      refine Za ?_
      refine Znl ?_
      refine Zb ?_
      refine Znx ?_
      refine Zrg ?_
      refine Zm ?_
      refine Zv _ (fun _ fr => x_add rfl (fr.ev rfl) rfl (i64w (r := ((i + 1 : Nat) : Int)) (by omega) (by omega))) ?_
      refine Za ?_
      intro a fr
      refine wpList_nil ?_
      refine fx_next ?_
      replace B4 := ((B4.only hN79 ap_Fpi_b1).only hO81 ne_b1_b66).only hO83 ne_b1_b12
      replace O22 := ((O22.only hN79 (fun g h1 h2 => ap2_A19_Fpi g h1 h2)).only hO81 (Apart.ne1 ap_A19_b66)).only hO83 (Apart.ne1 ap_A19_b12)
      replace hF := ((hF.locP hN79 gA_Fpi).loc hO81 (.inr g_b66)).loc hO83 (.inr g_b12)
      replace H74 := (H74.only hO81 (ne1P ap_Fp73_b66)).only hO83 (ne1P ap_Fp73_b12)
      replace V75 := (V75.only hO81 (Apart.ne1 ap_A71_b66)).only hO83 (Apart.ne1 ap_A71_b12)
      replace O34 := O34.only hO83 (Apart.ne1 ap_A31_b12)
      exact ⟨_, by omega, (i + 1), (stepF di ((([(mkS 1 0 0 ((n : Nat) : Int) 0 0 false msg0), (mkS 2 0 0 0 0 0 false (mkM 9 4 0 ((n : Nat) : Int))), (mkS 5 0 4 0 0 0 false msg0)]).set 1 { (([(mkS 1 0 0 ((n : Nat) : Int) 0 0 false msg0), (mkS 2 0 0 0 0 0 false (mkM 9 4 0 ((n : Nat) : Int))), (mkS 5 0 4 0 0 0 false msg0)]).getD 1 stp0) with msg := { (([(mkS 1 0 0 ((n : Nat) : Int) 0 0 false msg0), (mkS 2 0 0 0 0 0 false (mkM 9 4 0 ((n : Nat) : Int))), (mkS 5 0 4 0 0 0 false msg0)]).getD 1 stp0).msg with kind := 8 } }).getD i stp0)), Fp73, A71, cap72, rfl, fr.sub ⟨rfl, rfl, rfl, rfl, rfl, rfl, rfl, rfl, rfl, rfl, trivial⟩, hF, B4, O22, O34, H74, V75, B15, by omega, ap_Fp73_b1, ap_A71_b1, (symP ap2_Fp73_A19), ap2_A71_A19.symm, (symP ap2_Fp73_A31), ap2_A71_A31.symm, ap2_Fp73_A71, ap_Fp73_b12, ap_A71_b12, gA_Fp73, gA_A71⟩
    ·have hc45s := hc45
     try simp at hc45s
     refine Zex ?_
     refine Zxt ?_
     refine Zxt ?_
     refine Zxx ?_
     refine Zb ?_
     refine Znx ?_
     refine Zrg ?_
     refine Zm ?_
     refine Zv _ (fun _ fr => x_add rfl (fr.ev rfl) rfl (i64w (r := ((n + 1 : Nat) : Int)) (by omega) (by omega))) ?_
     refine Za ?_
     intro a fr
     refine wpList_nil ?_
     refine fx_next ?_
     exact ⟨_, by omega, (n + 1), di, Fpi, Ai, ci, rfl, fr.sub ⟨rfl, rfl, rfl, rfl, rfl, rfl, rfl, rfl, trivial⟩, hF, B4, O22, Hi, hVi, B15, by omega, ap_Fpi_b1, ap_Ai_b1, ap2_A19_Fpi, ap2_A19_Ai, ap2_Fpi_Ai, ap_Fpi_b12, ap_Ai_b12, gA_Fpi, gA_Ai⟩
   ·have hc36 := of_decide_eq_false hc36
    refine Zsk ?_
    refine Znx ?_
    refine Zsq ?_
    refine Zsr ?_
    refine Zm ?_
    refine Zm ?_
    refine Zv (.pointer (some ⟨g27, o28 + n * 1, none⟩)) (fun _ fr => x_indexV Try.underlying123 sz3 rfl (fr.ev rfl) hA29 (fr.ev rfl) (by first | omega | decide) rfl) ?_
    refine Zd (v := .int .i64 (([a9, b9]).getD n 0)) pl3 (range_cell ((O22.view).elem hA29 n 0 (by first | omega | decide)) 0 rfl rfl) ?_
    refine Zv _ (fun _ fr => x_eql rfl (fr.ev rfl) rfl rfl) ?_
    refine Znn ?_
    refine Zcd (fun hc84 => ?_) (fun hc84 => ?_)
    ·have hc84 := of_decide_eq_true hc84
     refine Zrg ?_
     refine Zm ?_
     refine Zm ?_
     refine Zv _ (fun _ fr => x_mul rfl rfl (fr.ev rfl) (i64w (r := ((16 * n : Nat) : Int)) (by omega) (by omega))) ?_
     refine Zv _ (fun _ fr => x_convert Try.underlying3 Try.underlying32 rfl (fr.ev rfl) (u32w (r := ((16 * n : Nat) : Int)) rfl (by omega))) ?_
     refine Zv (.agg (stpE.arr (mkS 4 0 4 0 ((16 * n : Nat) : Int) 7 false msg0))) (fun a fr => x_build (cells := stpE.arr (mkS 4 0 4 0 ((16 * n : Nat) : Int) 7 false msg0)) rfl (by simp only [List.map_toArray, List.map_cons, List.map_nil, show a.eval (.tmp 65) = .int .u32 ((16 * n : Nat) : Int) from fr.ev rfl]; kernel_rfl)) ?_
     obtain ⟨g85, o86, hA87⟩ := (O34.view).some_ (by first | omega | decide)
     refine Zv (.pointer (some ⟨g85, o86 + 2 * 27, none⟩)) (fun _ fr => x_indexV Try.underlying23 sz45 rfl (fr.ev rfl) hA87 rfl (by first | omega | decide) rfl) ?_
     intro a fr
     refine fx_storeRec (E := stpE) (x' := (mkS 4 0 4 0 ((16 * n : Nat) : Int) 7 false msg0)) sz45 rfl rfl rfl hA87 O34 (by first | omega | (simp only [List.length_set]; omega)) (fr.ev rfl) rfl (fr.ev rfl) fun w88 hO89 hBq => ?_
     revert a
     replace O34 := hBq
     clear hBq
     have hls90 : (([(mkS 1 0 0 ((n : Nat) : Int) 0 0 false msg0), (mkS 2 0 0 0 0 0 false (mkM 9 4 0 ((n : Nat) : Int))), (mkS 5 0 4 0 0 0 false msg0)]).set 2 (mkS 4 0 4 0 ((16 * n : Nat) : Int) 7 false msg0)).length = ([(mkS 1 0 0 ((n : Nat) : Int) 0 0 false msg0), (mkS 2 0 0 0 0 0 false (mkM 9 4 0 ((n : Nat) : Int))), (mkS 5 0 4 0 0 0 false msg0)]).length := List.length_set
     refine Znn ?_
     refine Zsq ?_
     have hl3 : (([(mkS 1 0 0 ((n : Nat) : Int) 0 0 false msg0), (mkS 2 0 0 0 0 0 false (mkM 9 4 0 ((n : Nat) : Int))), (mkS 5 0 4 0 0 0 false msg0)]).set 2 (mkS 4 0 4 0 ((16 * n : Nat) : Int) 7 false msg0)).length = 3 := rfl
     refine Zrg ?_
     refine Za ?_
     refine Znn ?_
     refine Zbl ?_
     intro a fr
     replace B4 := (B4.new hN33).only hO89 ap_A31_b1
     replace Ho := (Ho.new hN33).only hO89 (fun g h1 h2 => ap2_Fpo_A31 g h1 h2)
     replace hVo := (hVo.new hN33).only hO89 (fun g h1 h2 => ap2_Ao_A31 g h1 h2)
     replace B15 := (B15.new hN33).only hO89 ap_A31_b12
     replace hF := (hF.trNew hN33).locA hO89 gA_A31
     replace O22 := O22.only hO89 (fun g h1 h2 => ap2_A19_A31 g h1 h2)
     refine fx_loop (fun nM a wL => ∃ i : Nat, ∃ di : CD, ∃ Fpi : Nat → Prop, ∃ Ai : Option Addr, ∃ ci : Nat, nM = 3 - i ∧ Fr (97, []) [(0, .int .i64 a9), (1, .int .i64 b9), (5, .pointer (some ⟨b1, 0, none⟩)), (7, .pointer (some ⟨b6, 0, none⟩)), (9, .pointer (some ⟨b12, 0, none⟩)), (10, .bool true), (11, .slice A19 2 2), (12, .int .i64 ((n : Nat) : Int)), (13, .slice A31 3 3), (14, .int .i64 ((i : Nat) : Int))] a ∧ Only (fun _ => False) w wL ∧ Blk wL b1 42 (rcE.arr rc0) ∧ Own intE wL A19 2 ([a9, b9]) ∧ Own stpE wL A31 3 (([(mkS 1 0 0 ((n : Nat) : Int) 0 0 false msg0), (mkS 2 0 0 0 0 0 false (mkM 9 4 0 ((n : Nat) : Int))), (mkS 5 0 4 0 0 0 false msg0)]).set 2 (mkS 4 0 4 0 ((16 * n : Nat) : Int) 7 false msg0)) ∧ CacAt wL Fpi b6 di ∧ View lnE wL Ai ci (allL di.n di.L) ∧ Blk wL b12 42 (rcE.arr (rav di Ai ci)) ∧ i ≤ 3 ∧ (¬ Fpi b1) ∧ (Apart Ai b1) ∧ (∀ k, inA A19 k → Fpi k → False) ∧ (Apart2 A19 Ai) ∧ (∀ k, inA A31 k → Fpi k → False) ∧ (Apart2 A31 Ai) ∧ (∀ k, Fpi k → inA Ai k → False) ∧ (¬ Fpi b12) ∧ (Apart Ai b12) ∧ (∀ g, Fpi g → (fun _ => False) g ∨ w.heap.size ≤ g) ∧ (∀ g, inA Ai g → (fun _ => False) g ∨ w.heap.size ≤ g)) (n0 := _) ⟨0, do_, Fpo, Ao, co, rfl, fr.sub ⟨rfl, rfl, rfl, rfl, rfl, rfl, rfl, rfl, rfl, rfl, trivial⟩, hF, B4, O22, O34, Ho, hVo, B15, by omega, ap_Fpo_b1, ap_Ao_b1, ap2_A19_Fpo, ap2_A19_Ao, (symP ap2_Fpo_A31), ap2_Ao_A31.symm, ap2_Fpo_Ao, ap_Fpo_b12, ap_Ao_b12, gA_Fpo, gA_Ao⟩ ?_
     clear fr a
     rintro n92 a w91 ⟨i, di, Fpi, Ai, ci, rfl, fr, hF, B4, O22, O34, Hi, hVi, B15, hi, ap_Fpi_b1, ap_Ai_b1, ap2_A19_Fpi, ap2_A19_Ai, ap2_A31_Fpi, ap2_A31_Ai, ap2_Fpi_Ai, ap_Fpi_b12, ap_Ai_b12, gA_Fpi, gA_Ai⟩
     revert a
     refine Zsq ?_
     refine Zsr ?_
     refine Zm ?_
     refine Zm ?_
     refine Zv _ (fun _ fr => x_len Try.underlying23 rfl (fr.ev rfl)) ?_
     refine Zv _ (fun _ fr => x_lss rfl (fr.ev rfl) (fr.ev rfl) rfl) ?_
     refine Zm ?_
     refine Zy (decide (((i : Nat) : Int) < ((3 : Nat) : Int))) (.bool true) (fun _ fr _ => x_move rfl (fr.ev rfl)) ?_
     refine Zv (.bool ((decide (((i : Nat) : Int) < ((3 : Nat) : Int))) && true)) (fun _ fr => x_pick_and rfl (fr.ev rfl) (fun hb => ((fr.ev rfl)).trans (onlyIf_t (by simp_all))) (fun _ => rfl) rfl) ?_
     refine Znn ?_
     refine Zcd (fun hc93 => ?_) (fun hc93 => ?_)
     ·have hc93s := hc93
      try simp at hc93s
      refine Zsk ?_
      refine Znx ?_
      refine Zsq ?_
      refine Zbl ?_
      refine Zsq ?_
      refine ZhT (n := 12) 12 (fun w => Own stpE w A31 3 (([(mkS 1 0 0 ((n : Nat) : Int) 0 0 false msg0), (mkS 2 0 0 0 0 0 false (mkM 9 4 0 ((n : Nat) : Int))), (mkS 5 0 4 0 0 0 false msg0)]).set 2 (mkS 4 0 4 0 ((16 * n : Nat) : Int) 7 false msg0)) ∧ Blk w b12 42 (rcE.arr (rav di Ai ci)) ∧ True) ?_
      intro w94 hN95
      replace O34 := O34.new hN95
      replace B15 := B15.new hN95
      have hS9 := And.intro O34 (And.intro B15 trivial)
      refine Zhm 0 hS9 ?_
      refine ZhE 1 rcE ag42 hS9 (fun _ ⟨_, B15, _⟩ => (B15.rangeE rcE)) ?_
      refine Zhm 2 hS9 ?_
      refine Zhm 3 hS9 ?_
      refine Zht 4 rfl (.pointer (some ⟨g85, o86 + i * 27, none⟩)) hS9 (fun _ fr _ _ => x_indexV Try.underlying23 sz45 rfl (fr.ev rfl) hA87 (fr.ev rfl) (by first | omega | decide) rfl) ?_
      refine ZhE 5 stpE ag45 hS9 (fun _ ⟨O34, _⟩ => ((O34.view).elem hA87 i stp0 (by omega))) ?_
      refine Zh2 6 10 ?_ ?_
      ·replace Hi := Hi.new hN95
       replace hVi := hVi.new hN95
       refine Zk cf21 (does_c Hi hVi ap2_Fpi_Ai ((([(mkS 1 0 0 ((n : Nat) : Int) 0 0 false msg0), (mkS 2 0 0 0 0 0 false (mkM 9 4 0 ((n : Nat) : Int))), (mkS 5 0 4 0 0 0 false msg0)]).set 2 (mkS 4 0 4 0 ((16 * n : Nat) : Int) 7 false msg0)).getD i stp0)) ?_
       rintro v w103 ⟨A96, cap97, Fp98, rfl, H99, V100, ap2_Fp98_A96, mv101, mA102, hN104⟩
       replace B4 := B4.new hN95
       have ap_A96_b1 : Apart A96 b1 := moved_apart mA102 ap_Ai_b1 B4.lt
       replace O22 := O22.new hN95
       have ap2_A96_A19 : Apart2 A96 A19 := moved_apart2 mA102 ap2_A19_Ai.symm fun _ hg => O22.lt hg
       have ap2_A96_A31 : Apart2 A96 A31 := moved_apart2 mA102 ap2_A31_Ai.symm fun _ hg => O34.lt hg
       have ap_A96_b12 : Apart A96 b12 := moved_apart mA102 ap_Ai_b12 B15.lt
       replace hF := hF.trNew hN95
       have gA_A96 := gA_moved hF mA102 gA_Ai
       have ap_Fp98_b1 : ¬ Fp98 b1 := moved_apartP mv101 ap_Fpi_b1 B4.lt
       have ap2_Fp98_A19 : ∀ k, Fp98 k → inA A19 k → False := moved_apart2P mv101 (symP ap2_A19_Fpi) fun _ hg => O22.lt hg
       have ap2_Fp98_A31 : ∀ k, Fp98 k → inA A31 k → False := moved_apart2P mv101 (symP ap2_A31_Fpi) fun _ hg => O34.lt hg
       have ap_Fp98_b12 : ¬ Fp98 b12 := moved_apartP mv101 ap_Fpi_b12 B15.lt
       have gA_Fp98 := gA_movedP hF mv101 gA_Fpi
       have hdok_Hi := Hi.2
       clear Hi
       replace O34 := O34.only hN104 (fun g h1 h2 => ap2_A31_Fpi g h1 h2)
       replace B15 := B15.only hN104 ap_Fpi_b12
       refine Zhb ⟨O34, B15, trivial⟩ ?_
       have hS9 := And.intro O34 (And.intro B15 trivial)
       refine Zhm 7 hS9 ?_
       refine Zhx 8 hS9 ?_
       refine Zhx 9 hS9 ?_
       refine Zh1 10 ?_
       refine Zna (z := zv4) (cs := rcE.arr rc0) (by kernel_rfl) fun b105 w106 hN107 B108 hb109 => ?_
       replace B4 := B4.only hN104 ap_Fpi_b1
       have ne_b1_b105 : NE b1 b105 := NE.mk (Nat.lt_of_lt_of_le B4.lt hb109)
       replace O22 := O22.only hN104 (fun g h1 h2 => ap2_A19_Fpi g h1 h2)
       have ap_A19_b105 : Apart A19 b105 := O22.apart hb109
       have ap_A31_b105 : Apart A31 b105 := O34.apart hb109
       have ne_b12_b105 : NE b12 b105 := NE.mk (Nat.lt_of_lt_of_le B15.lt hb109)
       have ap_Fp98_b105 : ¬ Fp98 b105 := H99.apart hb109
       have ap_A96_b105 : Apart A96 b105 := V100.apart hb109
       replace hF := hF.locP hN104 gA_Fpi
       have g_b105 := Nat.le_trans hF.size hb109
       replace O34 := O34.new hN107
       replace B15 := B15.new hN107
       refine Zhb ⟨O34, B15, trivial⟩ ?_
       refine Zh1 11 ?_
       refine ZsS sz42 (rcE.all _) B108 (rcE.size _) (rcE.size _) fun w110 hO111 hBq => ?_
       replace B108 := hBq
       clear hBq
       replace O34 := O34.only hO111 (Apart.ne1 ap_A31_b105)
       replace B15 := B15.only hO111 ne_b12_b105
       refine Zhb ⟨O34, B15, trivial⟩ ?_
       refine Zhn ?_
       refine Ztl ?_
       refine Za ?_
       refine Znn ?_
       refine Zrg ?_
       refine ZE rcE ag42 (B108.rangeE rcE) ?_
       refine Zm ?_
       refine ZsS sz42 (rcE.all _) B15 (rcE.size _) (rcE.size _) fun w112 hO113 hBq => ?_
       replace B15 := hBq
       clear hBq
       refine Za ?_
       refine Znl ?_
       refine Zb ?_
       refine Znx ?_
       refine Zrg ?_
       refine Zm ?_
       refine Zv _ (fun _ fr => x_add rfl (fr.ev rfl) rfl (i64w (r := ((i + 1 : Nat) : Int)) (by omega) (by omega))) ?_
       refine Za ?_
       intro a fr
       refine wpList_nil ?_
       refine fx_next ?_
       replace B4 := ((B4.new hN107).only hO111 ne_b1_b105).only hO113 ne_b1_b12
       replace O22 := ((O22.new hN107).only hO111 (Apart.ne1 ap_A19_b105)).only hO113 (Apart.ne1 ap_A19_b12)
       replace H99 := ((H99.new hN107).only hO111 (ne1P ap_Fp98_b105)).only hO113 (ne1P ap_Fp98_b12)
       replace V100 := ((V100.new hN107).only hO111 (Apart.ne1 ap_A96_b105)).only hO113 (Apart.ne1 ap_A96_b12)
       replace hF := ((hF.trNew hN107).loc hO111 (.inr g_b105)).loc hO113 (.inr g_b12)
       replace O34 := O34.only hO113 (Apart.ne1 ap_A31_b12)
       exact ⟨_, by omega, (i + 1), (stepF di ((([(mkS 1 0 0 ((n : Nat) : Int) 0 0 false msg0), (mkS 2 0 0 0 0 0 false (mkM 9 4 0 ((n : Nat) : Int))), (mkS 5 0 4 0 0 0 false msg0)]).set 2 (mkS 4 0 4 0 ((16 * n : Nat) : Int) 7 false msg0)).getD i stp0)), Fp98, A96, cap97, rfl, fr.sub ⟨rfl, rfl, rfl, rfl, rfl, rfl, rfl, rfl, rfl, rfl, trivial⟩, hF, B4, O22, O34, H99, V100, B15, by omega, ap_Fp98_b1, ap_A96_b1, (symP ap2_Fp98_A19), ap2_A96_A19.symm, (symP ap2_Fp98_A31), ap2_A96_A31.symm, ap2_Fp98_A96, ap_Fp98_b12, ap_A96_b12, gA_Fp98, gA_A96⟩
      ·refine Zna (z := zv4) (cs := rcE.arr rc0) (by kernel_rfl) fun b114 w115 hN116 B117 hb118 => ?_
       replace B4 := B4.new hN95
       have ne_b1_b114 : NE b1 b114 := NE.mk (Nat.lt_of_lt_of_le B4.lt hb118)
       replace O22 := O22.new hN95
       have ap_A19_b114 : Apart A19 b114 := O22.apart hb118
       have ap_A31_b114 : Apart A31 b114 := O34.apart hb118
       replace Hi := Hi.new hN95
       have ap_Fpi_b114 : ¬ Fpi b114 := Hi.apart hb118
       replace hVi := hVi.new hN95
       have ap_Ai_b114 : Apart Ai b114 := hVi.apart hb118
       have ne_b12_b114 : NE b12 b114 := NE.mk (Nat.lt_of_lt_of_le B15.lt hb118)
       replace hF := hF.trNew hN95
       have g_b114 := Nat.le_trans hF.size hb118
       replace O34 := O34.new hN116
       replace B15 := B15.new hN116
       refine Zhb ⟨O34, B15, trivial⟩ ?_
       refine Zh1 6 ?_
       replace Hi := Hi.new hN116
       replace hVi := hVi.new hN116
       refine Zk cf21 (does_c Hi hVi ap2_Fpi_Ai ((([(mkS 1 0 0 ((n : Nat) : Int) 0 0 false msg0), (mkS 2 0 0 0 0 0 false (mkM 9 4 0 ((n : Nat) : Int))), (mkS 5 0 4 0 0 0 false msg0)]).set 2 (mkS 4 0 4 0 ((16 * n : Nat) : Int) 7 false msg0)).getD i stp0)) ?_
       rintro v w126 ⟨A119, cap120, Fp121, rfl, H122, V123, ap2_Fp121_A119, mv124, mA125, hN127⟩
       replace B4 := B4.new hN116
       have ap_A119_b1 : Apart A119 b1 := moved_apart mA125 ap_Ai_b1 B4.lt
       replace O22 := O22.new hN116
       have ap2_A119_A19 : Apart2 A119 A19 := moved_apart2 mA125 ap2_A19_Ai.symm fun _ hg => O22.lt hg
       have ap2_A119_A31 : Apart2 A119 A31 := moved_apart2 mA125 ap2_A31_Ai.symm fun _ hg => O34.lt hg
       have ap_A119_b12 : Apart A119 b12 := moved_apart mA125 ap_Ai_b12 B15.lt
       have ap_A119_b114 : Apart A119 b114 := moved_apart mA125 ap_Ai_b114 B117.lt
       replace hF := hF.trNew hN116
       have gA_A119 := gA_moved hF mA125 gA_Ai
       have ap_Fp121_b1 : ¬ Fp121 b1 := moved_apartP mv124 ap_Fpi_b1 B4.lt
       have ap2_Fp121_A19 : ∀ k, Fp121 k → inA A19 k → False := moved_apart2P mv124 (symP ap2_A19_Fpi) fun _ hg => O22.lt hg
       have ap2_Fp121_A31 : ∀ k, Fp121 k → inA A31 k → False := moved_apart2P mv124 (symP ap2_A31_Fpi) fun _ hg => O34.lt hg
       have ap_Fp121_b12 : ¬ Fp121 b12 := moved_apartP mv124 ap_Fpi_b12 B15.lt
       have ap_Fp121_b114 : ¬ Fp121 b114 := moved_apartP mv124 ap_Fpi_b114 B117.lt
       have gA_Fp121 := gA_movedP hF mv124 gA_Fpi
       have hdok_Hi := Hi.2
       clear Hi
       replace O34 := O34.only hN127 (fun g h1 h2 => ap2_A31_Fpi g h1 h2)
       replace B15 := B15.only hN127 ap_Fpi_b12
       refine Zhb ⟨O34, B15, trivial⟩ ?_
       have hS9 := And.intro O34 (And.intro B15 trivial)
       refine Zhm 7 hS9 ?_
       refine Zhx 8 hS9 ?_
       refine Zhx 9 hS9 ?_
       refine Zh1 11 ?_
       replace B117 := B117.only hN127 ap_Fpi_b114
       refine ZsS sz42 (rcE.all _) B117 (rcE.size _) (rcE.size _) fun w128 hO129 hBq => ?_
       replace B117 := hBq
       clear hBq
       replace O34 := O34.only hO129 (Apart.ne1 ap_A31_b114)
       replace B15 := B15.only hO129 ne_b12_b114
       refine Zhb ⟨O34, B15, trivial⟩ ?_
       refine Zhn ?_
       refine Ztl ?_
       refine Za ?_
       refine Znn ?_
       refine Zrg ?_
       refine ZE rcE ag42 (B117.rangeE rcE) ?_
       refine Zm ?_
       refine ZsS sz42 (rcE.all _) B15 (rcE.size _) (rcE.size _) fun w130 hO131 hBq => ?_
       replace B15 := hBq
       clear hBq
       refine Za ?_
       refine Znl ?_
       refine Zb ?_
       refine Znx ?_
       refine Zrg ?_
       refine Zm ?_
       refine Zv _ (fun _ fr => x_add rfl (fr.ev rfl) rfl (i64w (r := ((i + 1 : Nat) : Int)) (by omega) (by omega))) ?_
       refine Za ?_
       intro a fr
       refine wpList_nil ?_
       refine fx_next ?_
       replace B4 := ((B4.only hN127 ap_Fpi_b1).only hO129 ne_b1_b114).only hO131 ne_b1_b12
       replace O22 := ((O22.only hN127 (fun g h1 h2 => ap2_A19_Fpi g h1 h2)).only hO129 (Apart.ne1 ap_A19_b114)).only hO131 (Apart.ne1 ap_A19_b12)
       replace hF := ((hF.locP hN127 gA_Fpi).loc hO129 (.inr g_b114)).loc hO131 (.inr g_b12)
       replace H122 := (H122.only hO129 (ne1P ap_Fp121_b114)).only hO131 (ne1P ap_Fp121_b12)
       replace V123 := (V123.only hO129 (Apart.ne1 ap_A119_b114)).only hO131 (Apart.ne1 ap_A119_b12)
       replace O34 := O34.only hO131 (Apart.ne1 ap_A31_b12)
       exact ⟨_, by omega, (i + 1), (stepF di ((([(mkS 1 0 0 ((n : Nat) : Int) 0 0 false msg0), (mkS 2 0 0 0 0 0 false (mkM 9 4 0 ((n : Nat) : Int))), (mkS 5 0 4 0 0 0 false msg0)]).set 2 (mkS 4 0 4 0 ((16 * n : Nat) : Int) 7 false msg0)).getD i stp0)), Fp121, A119, cap120, rfl, fr.sub ⟨rfl, rfl, rfl, rfl, rfl, rfl, rfl, rfl, rfl, rfl, trivial⟩, hF, B4, O22, O34, H122, V123, B15, by omega, ap_Fp121_b1, ap_A119_b1, (symP ap2_Fp121_A19), ap2_A119_A19.symm, (symP ap2_Fp121_A31), ap2_A119_A31.symm, ap2_Fp121_A119, ap_Fp121_b12, ap_A119_b12, gA_Fp121, gA_A119⟩
     ·have hc93s := hc93
      try simp at hc93s
      refine Zex ?_
      refine Zxt ?_
      refine Zxt ?_
      refine Zxx ?_
      refine Zb ?_
      refine Znx ?_
      refine Zrg ?_
      refine Zm ?_
      refine Zv _ (fun _ fr => x_add rfl (fr.ev rfl) rfl (i64w (r := ((n + 1 : Nat) : Int)) (by omega) (by omega))) ?_
      refine Za ?_
      intro a fr
      refine wpList_nil ?_
      refine fx_next ?_
      exact ⟨_, by omega, (n + 1), di, Fpi, Ai, ci, rfl, fr.sub ⟨rfl, rfl, rfl, rfl, rfl, rfl, rfl, rfl, trivial⟩, hF, B4, O22, Hi, hVi, B15, by omega, ap_Fpi_b1, ap_Ai_b1, ap2_A19_Fpi, ap2_A19_Ai, ap2_Fpi_Ai, ap_Fpi_b12, ap_Ai_b12, gA_Fpi, gA_Ai⟩
    ·have hc84 := of_decide_eq_false hc84
     refine Zsk ?_
     refine Znx ?_
     refine Zsq ?_
     have hl3 : ([(mkS 1 0 0 ((n : Nat) : Int) 0 0 false msg0), (mkS 2 0 0 0 0 0 false (mkM 9 4 0 ((n : Nat) : Int))), (mkS 5 0 4 0 0 0 false msg0)]).length = 3 := rfl
     refine Zrg ?_
     refine Za ?_
     refine Znn ?_
     refine Zbl ?_
     intro a fr
     replace B4 := B4.new hN33
     replace Ho := Ho.new hN33
     replace hVo := hVo.new hN33
     replace B15 := B15.new hN33
     replace hF := hF.trNew hN33
     refine fx_loop (fun nM a wL => ∃ i : Nat, ∃ di : CD, ∃ Fpi : Nat → Prop, ∃ Ai : Option Addr, ∃ ci : Nat, nM = 3 - i ∧ Fr (97, []) [(0, .int .i64 a9), (1, .int .i64 b9), (5, .pointer (some ⟨b1, 0, none⟩)), (7, .pointer (some ⟨b6, 0, none⟩)), (9, .pointer (some ⟨b12, 0, none⟩)), (10, .bool true), (11, .slice A19 2 2), (12, .int .i64 ((n : Nat) : Int)), (13, .slice A31 3 3), (14, .int .i64 ((i : Nat) : Int))] a ∧ Only (fun _ => False) w wL ∧ Blk wL b1 42 (rcE.arr rc0) ∧ Own intE wL A19 2 ([a9, b9]) ∧ Own stpE wL A31 3 ([(mkS 1 0 0 ((n : Nat) : Int) 0 0 false msg0), (mkS 2 0 0 0 0 0 false (mkM 9 4 0 ((n : Nat) : Int))), (mkS 5 0 4 0 0 0 false msg0)]) ∧ CacAt wL Fpi b6 di ∧ View lnE wL Ai ci (allL di.n di.L) ∧ Blk wL b12 42 (rcE.arr (rav di Ai ci)) ∧ i ≤ 3 ∧ (¬ Fpi b1) ∧ (Apart Ai b1) ∧ (∀ k, inA A19 k → Fpi k → False) ∧ (Apart2 A19 Ai) ∧ (∀ k, inA A31 k → Fpi k → False) ∧ (Apart2 A31 Ai) ∧ (∀ k, Fpi k → inA Ai k → False) ∧ (¬ Fpi b12) ∧ (Apart Ai b12) ∧ (∀ g, Fpi g → (fun _ => False) g ∨ w.heap.size ≤ g) ∧ (∀ g, inA Ai g → (fun _ => False) g ∨ w.heap.size ≤ g)) (n0 := _) ⟨0, do_, Fpo, Ao, co, rfl, fr.sub ⟨rfl, rfl, rfl, rfl, rfl, rfl, rfl, rfl, rfl, rfl, trivial⟩, hF, B4, O22, O34, Ho, hVo, B15, by omega, ap_Fpo_b1, ap_Ao_b1, ap2_A19_Fpo, ap2_A19_Ao, (symP ap2_Fpo_A31), ap2_Ao_A31.symm, ap2_Fpo_Ao, ap_Fpo_b12, ap_Ao_b12, gA_Fpo, gA_Ao⟩ ?_
     clear fr a
     rintro n133 a w132 ⟨i, di, Fpi, Ai, ci, rfl, fr, hF, B4, O22, O34, Hi, hVi, B15, hi, ap_Fpi_b1, ap_Ai_b1, ap2_A19_Fpi, ap2_A19_Ai, ap2_A31_Fpi, ap2_A31_Ai, ap2_Fpi_Ai, ap_Fpi_b12, ap_Ai_b12, gA_Fpi, gA_Ai⟩
     revert a
     refine Zsq ?_
     refine Zsr ?_
     refine Zm ?_
     refine Zm ?_
     refine Zv _ (fun _ fr => x_len Try.underlying23 rfl (fr.ev rfl)) ?_
     refine Zv _ (fun _ fr => x_lss rfl (fr.ev rfl) (fr.ev rfl) rfl) ?_
     refine Zm ?_
     refine Zy (decide (((i : Nat) : Int) < ((3 : Nat) : Int))) (.bool true) (fun _ fr _ => x_move rfl (fr.ev rfl)) ?_
     refine Zv (.bool ((decide (((i : Nat) : Int) < ((3 : Nat) : Int))) && true)) (fun _ fr => x_pick_and rfl (fr.ev rfl) (fun hb => ((fr.ev rfl)).trans (onlyIf_t (by simp_all))) (fun _ => rfl) rfl) ?_
     refine Znn ?_
     refine Zcd (fun hc134 => ?_) (fun hc134 => ?_)
     ·have hc134s := hc134
      try simp at hc134s
      refine Zsk ?_
      refine Znx ?_
      refine Zsq ?_
      refine Zbl ?_
      refine Zsq ?_
      refine ZhT (n := 12) 12 (fun w => Own stpE w A31 3 ([(mkS 1 0 0 ((n : Nat) : Int) 0 0 false msg0), (mkS 2 0 0 0 0 0 false (mkM 9 4 0 ((n : Nat) : Int))), (mkS 5 0 4 0 0 0 false msg0)]) ∧ Blk w b12 42 (rcE.arr (rav di Ai ci)) ∧ True) ?_
      intro w135 hN136
      replace O34 := O34.new hN136
      replace B15 := B15.new hN136
      have hS9 := And.intro O34 (And.intro B15 trivial)
      refine Zhm 0 hS9 ?_
      refine ZhE 1 rcE ag42 hS9 (fun _ ⟨_, B15, _⟩ => (B15.rangeE rcE)) ?_
      refine Zhm 2 hS9 ?_
      refine Zhm 3 hS9 ?_
      obtain ⟨g137, o138, hA139⟩ := (O34.view).some_ (by first | omega | decide)
      have hS9 := And.intro O34 (And.intro B15 trivial)
      refine Zht 4 rfl (.pointer (some ⟨g137, o138 + i * 27, none⟩)) hS9 (fun _ fr _ _ => x_indexV Try.underlying23 sz45 rfl (fr.ev rfl) hA139 (fr.ev rfl) (by first | omega | decide) rfl) ?_
      refine ZhE 5 stpE ag45 hS9 (fun _ ⟨O34, _⟩ => ((O34.view).elem hA139 i stp0 (by omega))) ?_
      refine Zh2 6 10 ?_ ?_
      ·replace Hi := Hi.new hN136
       replace hVi := hVi.new hN136
       refine Zk cf21 (does_c Hi hVi ap2_Fpi_Ai (([(mkS 1 0 0 ((n : Nat) : Int) 0 0 false msg0), (mkS 2 0 0 0 0 0 false (mkM 9 4 0 ((n : Nat) : Int))), (mkS 5 0 4 0 0 0 false msg0)]).getD i stp0)) ?_
       rintro v w147 ⟨A140, cap141, Fp142, rfl, H143, V144, ap2_Fp142_A140, mv145, mA146, hN148⟩
       replace B4 := B4.new hN136
       have ap_A140_b1 : Apart A140 b1 := moved_apart mA146 ap_Ai_b1 B4.lt
       replace O22 := O22.new hN136
       have ap2_A140_A19 : Apart2 A140 A19 := moved_apart2 mA146 ap2_A19_Ai.symm fun _ hg => O22.lt hg
       have ap2_A140_A31 : Apart2 A140 A31 := moved_apart2 mA146 ap2_A31_Ai.symm fun _ hg => O34.lt hg
       have ap_A140_b12 : Apart A140 b12 := moved_apart mA146 ap_Ai_b12 B15.lt
       replace hF := hF.trNew hN136
       have gA_A140 := gA_moved hF mA146 gA_Ai
       have ap_Fp142_b1 : ¬ Fp142 b1 := moved_apartP mv145 ap_Fpi_b1 B4.lt
       have ap2_Fp142_A19 : ∀ k, Fp142 k → inA A19 k → False := moved_apart2P mv145 (symP ap2_A19_Fpi) fun _ hg => O22.lt hg
       have ap2_Fp142_A31 : ∀ k, Fp142 k → inA A31 k → False := moved_apart2P mv145 (symP ap2_A31_Fpi) fun _ hg => O34.lt hg
       have ap_Fp142_b12 : ¬ Fp142 b12 := moved_apartP mv145 ap_Fpi_b12 B15.lt
       have gA_Fp142 := gA_movedP hF mv145 gA_Fpi
       have hdok_Hi := Hi.2
       clear Hi
       replace O34 := O34.only hN148 (fun g h1 h2 => ap2_A31_Fpi g h1 h2)
       replace B15 := B15.only hN148 ap_Fpi_b12
       refine Zhb ⟨O34, B15, trivial⟩ ?_
       have hS9 := And.intro O34 (And.intro B15 trivial)
       refine Zhm 7 hS9 ?_
       refine Zhx 8 hS9 ?_
       refine Zhx 9 hS9 ?_
       refine Zh1 10 ?_
       refine Zna (z := zv4) (cs := rcE.arr rc0) (by kernel_rfl) fun b149 w150 hN151 B152 hb153 => ?_
       replace B4 := B4.only hN148 ap_Fpi_b1
       have ne_b1_b149 : NE b1 b149 := NE.mk (Nat.lt_of_lt_of_le B4.lt hb153)
       replace O22 := O22.only hN148 (fun g h1 h2 => ap2_A19_Fpi g h1 h2)
       have ap_A19_b149 : Apart A19 b149 := O22.apart hb153
       have ap_A31_b149 : Apart A31 b149 := O34.apart hb153
       have ne_b12_b149 : NE b12 b149 := NE.mk (Nat.lt_of_lt_of_le B15.lt hb153)
       have ap_Fp142_b149 : ¬ Fp142 b149 := H143.apart hb153
       have ap_A140_b149 : Apart A140 b149 := V144.apart hb153
       replace hF := hF.locP hN148 gA_Fpi
       have g_b149 := Nat.le_trans hF.size hb153
       replace O34 := O34.new hN151
       replace B15 := B15.new hN151
       refine Zhb ⟨O34, B15, trivial⟩ ?_
       refine Zh1 11 ?_
       refine ZsS sz42 (rcE.all _) B152 (rcE.size _) (rcE.size _) fun w154 hO155 hBq => ?_
       replace B152 := hBq
       clear hBq
       replace O34 := O34.only hO155 (Apart.ne1 ap_A31_b149)
       replace B15 := B15.only hO155 ne_b12_b149
       refine Zhb ⟨O34, B15, trivial⟩ ?_
       refine Zhn ?_
       refine Ztl ?_
       refine Za ?_
       refine Znn ?_
       refine Zrg ?_
       refine ZE rcE ag42 (B152.rangeE rcE) ?_
       refine Zm ?_
       refine ZsS sz42 (rcE.all _) B15 (rcE.size _) (rcE.size _) fun w156 hO157 hBq => ?_
       replace B15 := hBq
       clear hBq
       refine Za ?_
       refine Znl ?_
       refine Zb ?_
       refine Znx ?_
       refine Zrg ?_
       refine Zm ?_
       refine Zv _ (fun _ fr => x_add rfl (fr.ev rfl) rfl (i64w (r := ((i + 1 : Nat) : Int)) (by omega) (by omega))) ?_
       refine Za ?_
       intro a fr
       refine wpList_nil ?_
       refine fx_next ?_
       replace B4 := ((B4.new hN151).only hO155 ne_b1_b149).only hO157 ne_b1_b12
       replace O22 := ((O22.new hN151).only hO155 (Apart.ne1 ap_A19_b149)).only hO157 (Apart.ne1 ap_A19_b12)
       replace H143 := ((H143.new hN151).only hO155 (ne1P ap_Fp142_b149)).only hO157 (ne1P ap_Fp142_b12)
       replace V144 := ((V144.new hN151).only hO155 (Apart.ne1 ap_A140_b149)).only hO157 (Apart.ne1 ap_A140_b12)
       replace hF := ((hF.trNew hN151).loc hO155 (.inr g_b149)).loc hO157 (.inr g_b12)
       replace O34 := O34.only hO157 (Apart.ne1 ap_A31_b12)
       exact ⟨_, by omega, (i + 1), (stepF di (([(mkS 1 0 0 ((n : Nat) : Int) 0 0 false msg0), (mkS 2 0 0 0 0 0 false (mkM 9 4 0 ((n : Nat) : Int))), (mkS 5 0 4 0 0 0 false msg0)]).getD i stp0)), Fp142, A140, cap141, rfl, fr.sub ⟨rfl, rfl, rfl, rfl, rfl, rfl, rfl, rfl, rfl, rfl, trivial⟩, hF, B4, O22, O34, H143, V144, B15, by omega, ap_Fp142_b1, ap_A140_b1, (symP ap2_Fp142_A19), ap2_A140_A19.symm, (symP ap2_Fp142_A31), ap2_A140_A31.symm, ap2_Fp142_A140, ap_Fp142_b12, ap_A140_b12, gA_Fp142, gA_A140⟩
      ·refine Zna (z := zv4) (cs := rcE.arr rc0) (by kernel_rfl) fun b158 w159 hN160 B161 hb162 => ?_
       replace B4 := B4.new hN136
       have ne_b1_b158 : NE b1 b158 := NE.mk (Nat.lt_of_lt_of_le B4.lt hb162)
       replace O22 := O22.new hN136
       have ap_A19_b158 : Apart A19 b158 := O22.apart hb162
       have ap_A31_b158 : Apart A31 b158 := O34.apart hb162
       replace Hi := Hi.new hN136
       have ap_Fpi_b158 : ¬ Fpi b158 := Hi.apart hb162
       replace hVi := hVi.new hN136
       have ap_Ai_b158 : Apart Ai b158 := hVi.apart hb162
       have ne_b12_b158 : NE b12 b158 := NE.mk (Nat.lt_of_lt_of_le B15.lt hb162)
       replace hF := hF.trNew hN136
       have g_b158 := Nat.le_trans hF.size hb162
       replace O34 := O34.new hN160
       replace B15 := B15.new hN160
       refine Zhb ⟨O34, B15, trivial⟩ ?_
       refine Zh1 6 ?_
       replace Hi := Hi.new hN160
       replace hVi := hVi.new hN160
       refine Zk cf21 (does_c Hi hVi ap2_Fpi_Ai (([(mkS 1 0 0 ((n : Nat) : Int) 0 0 false msg0), (mkS 2 0 0 0 0 0 false (mkM 9 4 0 ((n : Nat) : Int))), (mkS 5 0 4 0 0 0 false msg0)]).getD i stp0)) ?_
       rintro v w170 ⟨A163, cap164, Fp165, rfl, H166, V167, ap2_Fp165_A163, mv168, mA169, hN171⟩
       replace B4 := B4.new hN160
       have ap_A163_b1 : Apart A163 b1 := moved_apart mA169 ap_Ai_b1 B4.lt
       replace O22 := O22.new hN160
       have ap2_A163_A19 : Apart2 A163 A19 := moved_apart2 mA169 ap2_A19_Ai.symm fun _ hg => O22.lt hg
       have ap2_A163_A31 : Apart2 A163 A31 := moved_apart2 mA169 ap2_A31_Ai.symm fun _ hg => O34.lt hg
       have ap_A163_b12 : Apart A163 b12 := moved_apart mA169 ap_Ai_b12 B15.lt
       have ap_A163_b158 : Apart A163 b158 := moved_apart mA169 ap_Ai_b158 B161.lt
       replace hF := hF.trNew hN160
       have gA_A163 := gA_moved hF mA169 gA_Ai
       have ap_Fp165_b1 : ¬ Fp165 b1 := moved_apartP mv168 ap_Fpi_b1 B4.lt
       have ap2_Fp165_A19 : ∀ k, Fp165 k → inA A19 k → False := moved_apart2P mv168 (symP ap2_A19_Fpi) fun _ hg => O22.lt hg
       have ap2_Fp165_A31 : ∀ k, Fp165 k → inA A31 k → False := moved_apart2P mv168 (symP ap2_A31_Fpi) fun _ hg => O34.lt hg
       have ap_Fp165_b12 : ¬ Fp165 b12 := moved_apartP mv168 ap_Fpi_b12 B15.lt
       have ap_Fp165_b158 : ¬ Fp165 b158 := moved_apartP mv168 ap_Fpi_b158 B161.lt
       have gA_Fp165 := gA_movedP hF mv168 gA_Fpi
       have hdok_Hi := Hi.2
       clear Hi
       replace O34 := O34.only hN171 (fun g h1 h2 => ap2_A31_Fpi g h1 h2)
       replace B15 := B15.only hN171 ap_Fpi_b12
       refine Zhb ⟨O34, B15, trivial⟩ ?_
       have hS9 := And.intro O34 (And.intro B15 trivial)
       refine Zhm 7 hS9 ?_
       refine Zhx 8 hS9 ?_
       refine Zhx 9 hS9 ?_
       refine Zh1 11 ?_
       replace B161 := B161.only hN171 ap_Fpi_b158
       refine ZsS sz42 (rcE.all _) B161 (rcE.size _) (rcE.size _) fun w172 hO173 hBq => ?_
       replace B161 := hBq
       clear hBq
       replace O34 := O34.only hO173 (Apart.ne1 ap_A31_b158)
       replace B15 := B15.only hO173 ne_b12_b158
       refine Zhb ⟨O34, B15, trivial⟩ ?_
       refine Zhn ?_
       refine Ztl ?_
       refine Za ?_
       refine Znn ?_
       refine Zrg ?_
       refine ZE rcE ag42 (B161.rangeE rcE) ?_
       refine Zm ?_
       refine ZsS sz42 (rcE.all _) B15 (rcE.size _) (rcE.size _) fun w174 hO175 hBq => ?_
       replace B15 := hBq
       clear hBq
       refine Za ?_
       refine Znl ?_
       refine Zb ?_
       refine Znx ?_
       refine Zrg ?_
       refine Zm ?_
       refine Zv _ (fun _ fr => x_add rfl (fr.ev rfl) rfl (i64w (r := ((i + 1 : Nat) : Int)) (by omega) (by omega))) ?_
       refine Za ?_
       intro a fr
       refine wpList_nil ?_
       refine fx_next ?_
       replace B4 := ((B4.only hN171 ap_Fpi_b1).only hO173 ne_b1_b158).only hO175 ne_b1_b12
       replace O22 := ((O22.only hN171 (fun g h1 h2 => ap2_A19_Fpi g h1 h2)).only hO173 (Apart.ne1 ap_A19_b158)).only hO175 (Apart.ne1 ap_A19_b12)
       replace hF := ((hF.locP hN171 gA_Fpi).loc hO173 (.inr g_b158)).loc hO175 (.inr g_b12)
       replace H166 := (H166.only hO173 (ne1P ap_Fp165_b158)).only hO175 (ne1P ap_Fp165_b12)
       replace V167 := (V167.only hO173 (Apart.ne1 ap_A163_b158)).only hO175 (Apart.ne1 ap_A163_b12)
       replace O34 := O34.only hO175 (Apart.ne1 ap_A31_b12)
       exact ⟨_, by omega, (i + 1), (stepF di (([(mkS 1 0 0 ((n : Nat) : Int) 0 0 false msg0), (mkS 2 0 0 0 0 0 false (mkM 9 4 0 ((n : Nat) : Int))), (mkS 5 0 4 0 0 0 false msg0)]).getD i stp0)), Fp165, A163, cap164, rfl, fr.sub ⟨rfl, rfl, rfl, rfl, rfl, rfl, rfl, rfl, rfl, rfl, trivial⟩, hF, B4, O22, O34, H166, V167, B15, by omega, ap_Fp165_b1, ap_A163_b1, (symP ap2_Fp165_A19), ap2_A163_A19.symm, (symP ap2_Fp165_A31), ap2_A163_A31.symm, ap2_Fp165_A163, ap_Fp165_b12, ap_A163_b12, gA_Fp165, gA_A163⟩
     ·have hc134s := hc134
      try simp at hc134s
      refine Zex ?_
      refine Zxt ?_
      refine Zxt ?_
      refine Zxx ?_
      refine Zb ?_
      refine Znx ?_
      refine Zrg ?_
      refine Zm ?_
      refine Zv _ (fun _ fr => x_add rfl (fr.ev rfl) rfl (i64w (r := ((n + 1 : Nat) : Int)) (by omega) (by omega))) ?_
      refine Za ?_
      intro a fr
      refine wpList_nil ?_
      refine fx_next ?_
      exact ⟨_, by omega, (n + 1), di, Fpi, Ai, ci, rfl, fr.sub ⟨rfl, rfl, rfl, rfl, rfl, rfl, rfl, rfl, trivial⟩, hF, B4, O22, Hi, hVi, B15, by omega, ap_Fpi_b1, ap_Ai_b1, ap2_A19_Fpi, ap2_A19_Ai, ap2_Fpi_Ai, ap_Fpi_b12, ap_Ai_b12, gA_Fpi, gA_Ai⟩
 ·have hc26s := hc26
  try simp at hc26s
  refine Zex ?_
  refine Zxt ?_
  refine Zxt ?_
  refine Zxx ?_
  refine Znx ?_
  refine Zsq ?_
  refine ZhT (n := 10) 10 (fun w => Blk w b12 42 (rcE.arr (rav do_ Ao co)) ∧ True) ?_
  intro w176 hN177
  replace B15 := B15.new hN177
  have hS9 := And.intro B15 trivial
  refine Zhm 0 hS9 ?_
  refine ZhE 1 rcE ag42 hS9 (fun _ ⟨B15, _⟩ => (B15.rangeE rcE)) ?_
  refine Zhm 2 hS9 ?_
  refine Zhm 3 hS9 ?_
  refine Zhm 4 hS9 ?_
  refine ZhE 5 rcE ag42 hS9 (fun _ ⟨B15, _⟩ => (B15.rangeE rcE)) ?_
  refine Zh1 6 ?_
  replace Ho := Ho.new hN177
  replace hVo := hVo.new hN177
  refine Zk cf19 (same_c Ho hVo ap2_Fpo_Ao) ?_
  rintro v w178 ⟨rfl, hN179⟩
  replace B15 := B15.new hN179
  refine Zhb ⟨B15, trivial⟩ ?_
  have hS9 := And.intro B15 trivial
  refine Zht 7 rfl (.bool true) hS9 (fun _ fr _ _ => x_pick_t rfl (fr.ev rfl) (fr.ev rfl)) ?_
  refine Zha 8 hS9 ?_
  refine Zh1 9 ?_
  replace B4 := (B4.new hN177).new hN179
  refine ZsS sz42 (rcE.all _) B4 (rcE.size _) (rcE.size _) fun w180 hO181 hBq => ?_
  replace B4 := hBq
  clear hBq
  replace B15 := B15.only hO181 ne_b1_b12.symm
  refine Zhb ⟨B15, trivial⟩ ?_
  refine Zhn ?_
  refine Ztl ?_
  refine Za ?_
  refine Znn ?_
  refine Zrt ?_
  refine Zre rfl [_, _, _] ⟨rfl, ⟨_, rfl, loadV_E (E := rcE) ag42 rfl (B4.rangeE rcE)⟩, rfl, trivial⟩ ?_
  replace hF := ((hF.trNew hN177).trNew hN179).loc hO181 (.inr g_b1)
  replace Ho := (Ho.new hN179).only hO181 (ne1P ap_Fpo_b1)
  replace hVo := (hVo.new hN179).only hO181 (Apart.ne1 ap_Ao_b1)
  exact ⟨_, rfl, b6, Fpo, do_, Ao, co, rfl, Ho, hVo, ap2_Fpo_Ao, (fun g hg => (gA_Fpo g hg).resolve_left (fun h => h)), (fun g hg => (gA_Ao g hg).resolve_left (fun h => h)), hF⟩
end Go.Proofs.Ytflnlmibkbojcaa
namespace Go.Proofs.Ytflnlmibkbojcaa
open Go.RowKit
set_option maxRecDepth 100000 in
set_option maxHeartbeats 4000000 in
theorem asks_c (sta oth : Int) (h1 : 0 ≤ sta ∧ sta < 256) (h2 : 0 ≤ oth ∧ oth < 256) (x : Stp) (w : World) : Calls Try.prog 5 #[.int .u8 sta, .int .u8 oth, .agg (stpE.arr x)] w (Ret fun v w' => v = .bool true ∧ New w w') := by
 have hs1 := x.hl
 have hs2 := x.ha
 have hs3 := x.hv
 have hF := Only.refl (fun _ => False) w
 refine Zen 109 Try.func5 ?_
 refine Zsr ?_
 refine Znb (cs := stpE.arr x) fun b1 w2 hN3 B4 hb5 => ?_
 refine Za ?_
 refine Znn ?_
 refine Zsr ?_
 refine Zm ?_
 refine Zv (.int .u8 (sta % 4)) (fun _ fr => x_rem rfl (fr.ev rfl) rfl (by decide) (rem_nn (by omega))) ?_
 refine Zv _ (fun _ fr => x_convert Try.underlying5 Try.underlying3 rfl (fr.ev rfl) (i64w (r := sta % 4) rfl (by omega))) ?_
 refine Zm ?_
 refine Zv (.int .u8 (oth % 4)) (fun _ fr => x_rem rfl (fr.ev rfl) rfl (by decide) (rem_nn (by omega))) ?_
 refine Zv _ (fun _ fr => x_convert Try.underlying5 Try.underlying3 rfl (fr.ev rfl) (i64w (r := oth % 4) rfl (by omega))) ?_
 refine Zk cf22 (filled_c (sta % 4) (oth % 4) _) ?_
 rintro v w15 ⟨b6, Fp7, d8, A9, cap10, rfl, H11, V12, ap2_Fp7_A9, hb13, hA14, hN16⟩
 have ap_Fp7_b1 : ¬ Fp7 b1 := new_apartP hb13 B4.lt
 replace hF := hF.trNew hN3
 have gA_Fp7 := gA_newP hF hb13
 refine Zm ?_
 refine Zt ?_
 refine Zt ?_
 refine Zt ?_
 refine Zna (z := zv4) (cs := rcE.arr rc0) (by kernel_rfl) fun b17 w18 hN19 B20 hb21 => ?_
 replace B4 := B4.new hN16
 have ne_b1_b17 : NE b1 b17 := NE.mk (Nat.lt_of_lt_of_le B4.lt hb21)
 have ap_Fp7_b17 : ¬ Fp7 b17 := H11.apart hb21
 have ap_A9_b17 : Apart A9 b17 := V12.apart hb21
 replace hF := hF.trNew hN16
 have g_b17 := Nat.le_trans hF.size hb21
 refine Za ?_
 refine ZsS sz42 (rcE.all _) B20 (rcE.size _) (rcE.size _) fun w22 hO23 hBq => ?_
 replace B20 := hBq
 clear hBq
 refine Za ?_
 refine Znn ?_
 refine Zsq ?_
 refine Zsr ?_
 refine Zm ?_
 refine Zv (.bool false) (fun _ fr => x_not rfl (fr.ev rfl) rfl) ?_
 refine Znn ?_
 refine Zcf ?_
 refine Zsk ?_
 refine Znx ?_
 refine Zsr ?_
 refine Zm ?_
 refine Zf fo45_3 ?_
 replace B4 := (B4.new hN19).only hO23 ne_b1_b17
 refine Zd (v := .int .u32 x.line) pl32 (B4.cell 3 rfl) ?_
 refine Zf fo45_6 ?_
 refine Zd (v := .bool (x.wr)) pl4 (B4.cell 6 rfl) ?_
 refine Zf fo45_1 ?_
 refine Zd (v := .int .i64 x.pick) pl3 (B4.cell 1 rfl) ?_
 replace H11 := (H11.new hN19).only hO23 (ne1P ap_Fp7_b17)
 refine Zk cf13 (u_ask H11 x.line x.hl (x.wr) x.pick) ?_
 rintro v w31 ⟨A27, cap28, rfl, O29, hA30, Fp24, H25, hN32, mv26⟩
 have ap_Fp24_b1 : ¬ Fp24 b1 := moved_apartP mv26 ap_Fp7_b1 B4.lt
 replace V12 := (V12.new hN19).only hO23 (Apart.ne1 ap_A9_b17)
 have ap2_Fp24_A9 : ∀ k, Fp24 k → inA A9 k → False := moved_apart2P mv26 ap2_Fp7_A9 fun _ hg => V12.lt hg
 replace hF := (hF.trNew hN19).loc hO23 (.inr g_b17)
 have gA_Fp24 := gA_movedP hF mv26 gA_Fp7
 have hdok_H11 := H11.2
 clear H11
 have ap2_Fp24_A27 := H25.msg_ap O29
 refine Zm ?_
 refine Zt ?_
 refine Zt ?_
 refine Za ?_
 refine Za ?_
 refine Znn ?_
 refine Zsr ?_
 replace B20 := B20.only hN32 ap_Fp7_b17
 refine ZE rcE ag42 (B20.rangeE rcE) ?_
 refine Zf fo45_3 ?_
 replace B4 := B4.only hN32 ap_Fp7_b1
 refine Zd (v := .int .u32 x.line) pl32 (B4.cell 3 rfl) ?_
 refine Zf fo45_6 ?_
 refine Zd (v := .bool (x.wr)) pl4 (B4.cell 6 rfl) ?_
 refine Zf fo45_1 ?_
 refine Zd (v := .int .i64 x.pick) pl3 (B4.cell 1 rfl) ?_
 replace V12 := V12.only hN32 (fun g h1 h2 => (symP ap2_Fp7_A9) g h1 h2)
 refine Zk cf23 (ur_ask V12 hdok_H11 x.line x.hl (x.wr) x.pick) ?_
 rintro v w41 ⟨A33, cap34, B37, cB38, rfl, V35, V39, mv36, hB40, hN42⟩
 have ap2_A33_Fp24 : ∀ k, inA A33 k → Fp24 k → False := moved_apart2P mv36 (symP ap2_Fp24_A9) fun _ hg => H25.lt hg
 have ap2_Fp24_B37 : ∀ k, Fp24 k → inA B37 k → False := symP (new_apart2P hB40 fun _ hg => H25.lt hg)
 refine Zm ?_
 refine Zt ?_
 refine Zt ?_
 refine Zt ?_
 refine Zna (z := zv4) (cs := rcE.arr rc0) (by kernel_rfl) fun b43 w44 hN45 B46 hb47 => ?_
 replace B4 := B4.new hN42
 have ne_b1_b43 : NE b1 b43 := NE.mk (Nat.lt_of_lt_of_le B4.lt hb47)
 replace H25 := H25.new hN42
 have ap_Fp24_b43 : ¬ Fp24 b43 := H25.apart hb47
 replace O29 := O29.new hN42
 have ap_A27_b43 : Apart A27 b43 := O29.apart hb47
 have ap_A33_b43 : Apart A33 b43 := V35.apart hb47
 have ap_B37_b43 : Apart B37 b43 := V39.apart hb47
 replace hF := (hF.locP hN32 gA_Fp7).trNew hN42
 have g_b43 := Nat.le_trans hF.size hb47
 refine ZsS sz42 (rcE.all _) B46 (rcE.size _) (rcE.size _) fun w48 hO49 hBq => ?_
 replace B46 := hBq
 clear hBq
 refine Za ?_
 refine Za ?_
 refine Znn ?_
 refine Zsr ?_
 refine Zm ?_
 refine Zf fo45_3 ?_
 replace B4 := (B4.new hN45).only hO49 ne_b1_b43
 refine Zd (v := .int .u32 x.line) pl32 (B4.cell 3 rfl) ?_
 refine Zv _ (fun _ fr => x_add rfl (fr.ev rfl) rfl rfl) ?_
 refine Zf fo45_6 ?_
 refine Zd (v := .bool (x.wr)) pl4 (B4.cell 6 rfl) ?_
 refine Zv _ (fun _ fr => x_not rfl (fr.ev rfl) rfl) ?_
 refine Zf fo45_1 ?_
 refine Zd (v := .int .i64 x.pick) pl3 (B4.cell 1 rfl) ?_
 replace H25 := (H25.new hN45).only hO49 (ne1P ap_Fp24_b43)
 refine Zk cf13 (u_ask H25 (IntKind.u32.wrap (x.line + 1)) (u32bd _) (!(x.wr)) x.pick) ?_
 rintro v w57 ⟨A53, cap54, rfl, O55, hA56, Fp50, H51, hN58, mv52⟩
 replace V35 := (V35.new hN45).only hO49 (Apart.ne1 ap_A33_b43)
 have ap2_Fp50_A33 : ∀ k, Fp50 k → inA A33 k → False := moved_apart2P mv52 (symP ap2_A33_Fp24) fun _ hg => V35.lt hg
 have hdok_H25 := H25.2
 clear H25
 refine Zm ?_
 refine Zt ?_
 refine Zt ?_
 refine Za ?_
 refine Za ?_
 refine Znn ?_
 refine Zsr ?_
 replace B46 := B46.only hN58 ap_Fp24_b43
 refine ZE rcE ag42 (B46.rangeE rcE) ?_
 refine Zf fo45_3 ?_
 replace B4 := B4.only hN58 ap_Fp24_b1
 refine Zd (v := .int .u32 x.line) pl32 (B4.cell 3 rfl) ?_
 refine Zv _ (fun _ fr => x_add rfl (fr.ev rfl) rfl rfl) ?_
 refine Zf fo45_6 ?_
 refine Zd (v := .bool (x.wr)) pl4 (B4.cell 6 rfl) ?_
 refine Zv _ (fun _ fr => x_not rfl (fr.ev rfl) rfl) ?_
 refine Zf fo45_1 ?_
 refine Zd (v := .int .i64 x.pick) pl3 (B4.cell 1 rfl) ?_
 replace V35 := V35.only hN58 (fun g h1 h2 => ap2_A33_Fp24 g h1 h2)
 refine Zk cf23 (ur_ask V35 hdok_H25 (IntKind.u32.wrap (x.line + 1)) (u32bd _) (!(x.wr)) x.pick) ?_
 rintro v w67 ⟨A59, cap60, B63, cB64, rfl, V61, V65, mv62, hB66, hN68⟩
 have ap2_A59_Fp50 : ∀ k, inA A59 k → Fp50 k → False := moved_apart2P mv62 (symP ap2_Fp50_A33) fun _ hg => H51.lt hg
 refine Zm ?_
 refine Zt ?_
 refine Zt ?_
 refine Zt ?_
 refine Zna (z := zv4) (cs := rcE.arr rc0) (by kernel_rfl) fun b69 w70 hN71 B72 hb73 => ?_
 replace O29 := (((O29.new hN45).only hO49 (Apart.ne1 ap_A27_b43)).only hN58 (fun g h1 h2 => (symP ap2_Fp24_A27) g h1 h2)).new hN68
 have ap_A27_b69 : Apart A27 b69 := O29.apart hb73
 replace V39 := (((V39.new hN45).only hO49 (Apart.ne1 ap_B37_b43)).only hN58 (fun g h1 h2 => (symP ap2_Fp24_B37) g h1 h2)).new hN68
 have ap_B37_b69 : Apart B37 b69 := V39.apart hb73
 replace H51 := H51.new hN68
 have ap_Fp50_b69 : ¬ Fp50 b69 := H51.apart hb73
 replace O55 := O55.new hN68
 have ap_A53_b69 : Apart A53 b69 := O55.apart hb73
 have ap_A59_b69 : Apart A59 b69 := V61.apart hb73
 have ap_B63_b69 : Apart B63 b69 := V65.apart hb73
 replace hF := (((hF.trNew hN45).loc hO49 (.inr g_b43)).locP hN58 gA_Fp24).trNew hN68
 have g_b69 := Nat.le_trans hF.size hb73
 refine ZsS sz42 (rcE.all _) B72 (rcE.size _) (rcE.size _) fun w74 hO75 hBq => ?_
 replace B72 := hBq
 clear hBq
 refine Za ?_
 refine Za ?_
 refine Znn ?_
 refine Zsr ?_
 refine Zm ?_
 refine Zm ?_
 refine Zv (.bool true) (fun _ fr => x_eql rfl (fr.ev rfl) (fr.ev rfl) (by simp)) ?_
 refine Zm ?_
 refine Zm ?_
 refine Zm ?_
 replace O29 := (O29.new hN71).only hO75 (Apart.ne1 ap_A27_b69)
 replace V39 := (V39.new hN71).only hO75 (Apart.ne1 ap_B37_b69)
 refine Zk cf24 (msgs_c (la := (askF d8 x.line x.hl (x.wr) x.pick).2.1) (lb := (askF d8 x.line x.hl (x.wr) x.pick).2.1) (O29.view) (V39)) ?_
 rintro v w76 ⟨rfl, hN77⟩
 intro a fr
 rw [show decide ((askF d8 x.line x.hl (x.wr) x.pick).2.1 = (askF d8 x.line x.hl (x.wr) x.pick).2.1) = true from decide_eq_true rfl] at fr
 revert a
 refine Zpt ?_
 refine Zm ?_
 refine Zm ?_
 refine Zm ?_
 refine Zv (.bool true) (fun _ fr => x_eql rfl (fr.ev rfl) (fr.ev rfl) (by simp)) ?_
 refine Zpt ?_
 refine Zm ?_
 refine Zm ?_
 refine Zm ?_
 replace O55 := ((O55.new hN71).only hO75 (Apart.ne1 ap_A53_b69)).new hN77
 replace V65 := ((V65.new hN71).only hO75 (Apart.ne1 ap_B63_b69)).new hN77
 refine Zk cf24 (msgs_c (la := (askF ((askF d8 x.line x.hl (x.wr) x.pick).1) (IntKind.u32.wrap (x.line + 1)) (u32bd _) (!(x.wr)) x.pick).2.1) (lb := (askF ((askF d8 x.line x.hl (x.wr) x.pick).1) (IntKind.u32.wrap (x.line + 1)) (u32bd _) (!(x.wr)) x.pick).2.1) (O55.view) (V65)) ?_
 rintro v w78 ⟨rfl, hN79⟩
 intro a fr
 rw [show decide ((askF ((askF d8 x.line x.hl (x.wr) x.pick).1) (IntKind.u32.wrap (x.line + 1)) (u32bd _) (!(x.wr)) x.pick).2.1 = (askF ((askF d8 x.line x.hl (x.wr) x.pick).1) (IntKind.u32.wrap (x.line + 1)) (u32bd _) (!(x.wr)) x.pick).2.1) = true from decide_eq_true rfl] at fr
 revert a
 refine Zpt ?_
 refine Zm ?_
 refine Zm ?_
 replace B72 := (B72.new hN77).new hN79
 refine ZE rcE ag42 (B72.rangeE rcE) ?_
 replace H51 := (((H51.new hN71).only hO75 (ne1P ap_Fp50_b69)).new hN77).new hN79
 replace V61 := (((V61.new hN71).only hO75 (Apart.ne1 ap_A59_b69)).new hN77).new hN79
 refine Zk cf19 (same_c H51 V61 (symP ap2_A59_Fp50)) ?_
 rintro v w80 ⟨rfl, hN81⟩
 refine Zpt ?_
 refine Zm ?_
 refine Zk cf11 (known_c _) ?_
 rintro v w82 ⟨rfl, hN83⟩
 refine Zpt ?_
 refine Za ?_
 refine Znn ?_
 refine Zrt ?_
 refine Zre rfl [_] ⟨rfl, trivial⟩ ?_
 replace hF := (((((hF.trNew hN71).loc hO75 (.inr g_b69)).trNew hN77).trNew hN79).trNew hN81).trNew hN83
 exact ⟨_, rfl, rfl, hF⟩
end Go.Proofs.Ytflnlmibkbojcaa
namespace Go.Proofs.Ytflnlmibkbojcaa
open Go.RowKit Go.ChangeShapes Go.WideShapes Go.ChangeAt Go.Deep
section
variable {H : Type} {enc : TypeId × Value → H} {P : Program} {w : World} {base : Nat} {spare : Nat → Bool} {held : Bool} {fuel : Nat} {cs : List Value} {x : DataW H × List MemPlace}
theorem piece {q n : Nat} {a b : List Value} (h1 : (cs.drop q).take n = a) (h2 : cs.drop (q + n) = b) : cs.drop q = a ++ b := by
  rw [← h1, ← h2, ← List.drop_drop, List.take_append_drop]
theorem trod_ints {t e n : Nat} {k : IntKind} (ht : P.underlying t = some (.array n e)) (he : P.underlying e = some (.int k)) (hC : P.cellsOf e = 1) (hCt : P.cellsOf t = n) (h : DataW.trod enc P w base spare held fuel t cs = some x) :
    ∃ l : List Int, l.length = n ∧ cs = l.map (Value.int k) ∧ ∀ a ∈ l, (Lit.int k a).wf = true := by
  obtain ⟨xs, m, _, _, hl, hxl, hi⟩ := DataW.trod_array ht h
  rw [hC] at hi
  rw [hCt] at hl
  have hb : ∀ i, (h : i < cs.length) → ∃ a : Int, cs[i] = .int k a ∧ (Lit.int k a).wf = true := by
    intro i h
    have h2 := hi i (by omega)
    have e1 : (cs.drop (i * 1)).take 1 = [cs[i]] := by
      rw [Nat.mul_one, List.drop_eq_getElem_cons h]
      rfl
    rw [e1, List.getElem?_eq_getElem (show i < xs.length by omega)] at h2
    obtain ⟨a, e0, _, wa⟩ := DataW.trod_int he h2
    exact ⟨a, by simpa using e0, wa⟩
  obtain ⟨f, hf⟩ : ∃ f : (i : Fin cs.length) → Int, ∀ i : Fin cs.length, cs[i.1] = .int k (f i) ∧ (Lit.int k (f i)).wf = true := ⟨fun i => (hb i i.2).choose, fun i => (hb i i.2).choose_spec⟩
  refine ⟨List.ofFn f, by simp [hl], ?_, ?_⟩
  · apply List.ext_getElem
    · simp
    · intro i h1 h2
      rw [(hf ⟨i, h1⟩).1]
      simp
  · intro a ha
    obtain ⟨i, rfl⟩ := List.mem_ofFn.1 ha
    exact (hf i).2
theorem open_rec {α : Type} [DecidableEq α] {E : Enc P α} {OK : α → Prop} {fs : Array Field} {r : Reach} {b0 : Nat} {v : Value} {d : DataW H} {p : List MemPlace} (ht : P.underlying E.T = some (.struct fs))
    (hel : ∀ fuel cs x, DataW.trod enc P w base (fun _ => true) held fuel E.T cs = some x → ∃ m, OK m ∧ cs = E.cells m) (hv : Value.okWide P w r b0 E.T v) (h : DataW.Trod enc P w base (fun _ => true) held E.T v d p) :
    ∃ m, OK m ∧ v = .agg (E.arr m) := by
  obtain ⟨cs, rfl, hsz⟩ := okWide_struct ht hv
  obtain ⟨fuel, hf⟩ := h
  obtain ⟨m, hm, hc⟩ := hel _ _ _ hf
  refine ⟨m, hm, congrArg Value.agg ?_⟩
  have : cs.toList = E.cells m := hc
  apply Array.toList_inj.1
  rw [this, E.toList]
end
end Go.Proofs.Ytflnlmibkbojcaa
namespace Go.Proofs.Ytflnlmibkbojcaa
open Go.RowKit Go.ChangeShapes Go.WideShapes Go.ChangeAt
section
variable {H : Type} {enc : TypeId × Value → H} {w : World} {base : Nat} {spare : Nat → Bool} {held : Bool} {fuel : Nat} {cs : List Value} {x : DataW H × List MemPlace}
theorem cellsMSG : Try.prog.cellsOf 35 = 20 := by kernel_rfl
theorem cellsSTEP : Try.prog.cellsOf 45 = 27 := by kernel_rfl
theorem cellsKIND : Try.prog.cellsOf 33 = 1 := by kernel_rfl
theorem cellsBOOL : Try.prog.cellsOf 4 = 1 := by kernel_rfl
theorem cellsU32 : Try.prog.cellsOf 32 = 1 := by kernel_rfl
theorem cellsARR : Try.prog.cellsOf 22 = 16 := by kernel_rfl
theorem cellsU8 : Try.prog.cellsOf 5 = 1 := by kernel_rfl
theorem cellsI64 : Try.prog.cellsOf 3 = 1 := by kernel_rfl
theorem wf_u32 {a : Int} (h : (Lit.int .u32 a).wf = true) : 0 ≤ a ∧ a < 4294967296 := by
  simp [Lit.wf, IntKind.min, IntKind.max, IntKind.signed, IntKind.bits] at h
  omega
theorem wf_u8 {a : Int} (h : (Lit.int .u8 a).wf = true) : 0 ≤ a ∧ a < 256 := by
  simp [Lit.wf, IntKind.min, IntKind.max, IntKind.signed, IntKind.bits] at h
  omega
theorem trod_msg (h : DataW.trod enc Try.prog w base spare held fuel 35 cs = some x) : ∃ m : Msg, True ∧ cs = m.cells := by
  obtain ⟨xs, n, _, _, hl, hlen, hg⟩ := DataW.trod_struct Try.underlying35 h
  rw [cellsMSG] at hl
  match xs, hlen with
  | [y0, y1, y2, y3, y4], _ =>
    have h0 : DataW.trod enc Try.prog w base spare held n 33 ((cs.drop 0).take (Try.prog.cellsOf 33)) = some y0 := hg 0 _ rfl
    rw [cellsKIND] at h0
    have h1 : DataW.trod enc Try.prog w base spare held n 3 ((cs.drop 1).take (Try.prog.cellsOf 3)) = some y1 := hg 1 _ rfl
    rw [cellsI64] at h1
    have h2 : DataW.trod enc Try.prog w base spare held n 3 ((cs.drop 2).take (Try.prog.cellsOf 3)) = some y2 := hg 2 _ rfl
    rw [cellsI64] at h2
    have h3 : DataW.trod enc Try.prog w base spare held n 32 ((cs.drop 3).take (Try.prog.cellsOf 32)) = some y3 := hg 3 _ rfl
    rw [cellsU32] at h3
    have h4 : DataW.trod enc Try.prog w base spare held n 22 ((cs.drop 4).take (Try.prog.cellsOf 22)) = some y4 := hg 4 _ rfl
    rw [cellsARR] at h4
    obtain ⟨a0, e0, _⟩ := DataW.trod_int Try.underlying33 h0
    obtain ⟨a1, e1, _⟩ := DataW.trod_int Try.underlying3 h1
    obtain ⟨a2, e2, _⟩ := DataW.trod_int Try.underlying3 h2
    obtain ⟨a3, e3, _, w3⟩ := DataW.trod_int Try.underlying32 h3
    obtain ⟨l, hll, e4, hw⟩ := trod_ints Try.underlying22 Try.underlying5 cellsU8 cellsARR h4
    refine ⟨⟨a0, a1, a2, a3, ⟨l, hll, fun a ha => wf_u8 (hw a ha)⟩, wf_u32 w3⟩, trivial, ?_⟩
    have p5 : cs.drop 20 = [] := List.drop_eq_nil_of_le (by omega)
    have p4 := piece e4 p5
    have p3 := piece e3 p4
    have p2 := piece e2 p3
    have p1 := piece e1 p2
    have p0 := piece e0 p1
    rw [List.drop_zero] at p0
    rw [p0]
    simp [Msg.cells]
theorem trod_stp (h : DataW.trod enc Try.prog w base spare held fuel 45 cs = some x) : ∃ m : Stp, True ∧ cs = m.cells := by
  obtain ⟨xs, n, _, _, hl, hlen, hg⟩ := DataW.trod_struct Try.underlying45 h
  rw [cellsSTEP] at hl
  match xs, hlen with
  | [y0, y1, y2, y3, y4, y5, y6, y7], _ =>
    have h0 : DataW.trod enc Try.prog w base spare held n 3 ((cs.drop 0).take (Try.prog.cellsOf 3)) = some y0 := hg 0 _ rfl
    rw [cellsI64] at h0
    have h1 : DataW.trod enc Try.prog w base spare held n 3 ((cs.drop 1).take (Try.prog.cellsOf 3)) = some y1 := hg 1 _ rfl
    rw [cellsI64] at h1
    have h2 : DataW.trod enc Try.prog w base spare held n 3 ((cs.drop 2).take (Try.prog.cellsOf 3)) = some y2 := hg 2 _ rfl
    rw [cellsI64] at h2
    have h3 : DataW.trod enc Try.prog w base spare held n 32 ((cs.drop 3).take (Try.prog.cellsOf 32)) = some y3 := hg 3 _ rfl
    rw [cellsU32] at h3
    have h4 : DataW.trod enc Try.prog w base spare held n 32 ((cs.drop 4).take (Try.prog.cellsOf 32)) = some y4 := hg 4 _ rfl
    rw [cellsU32] at h4
    have h5 : DataW.trod enc Try.prog w base spare held n 32 ((cs.drop 5).take (Try.prog.cellsOf 32)) = some y5 := hg 5 _ rfl
    rw [cellsU32] at h5
    have h6 : DataW.trod enc Try.prog w base spare held n 4 ((cs.drop 6).take (Try.prog.cellsOf 4)) = some y6 := hg 6 _ rfl
    rw [cellsBOOL] at h6
    have h7 : DataW.trod enc Try.prog w base spare held n 35 ((cs.drop 7).take (Try.prog.cellsOf 35)) = some y7 := hg 7 _ rfl
    rw [cellsMSG] at h7
    obtain ⟨a0, e0, _⟩ := DataW.trod_int Try.underlying3 h0
    obtain ⟨a1, e1, _⟩ := DataW.trod_int Try.underlying3 h1
    obtain ⟨a2, e2, _⟩ := DataW.trod_int Try.underlying3 h2
    obtain ⟨a3, e3, _, w3⟩ := DataW.trod_int Try.underlying32 h3
    obtain ⟨a4, e4, _, w4⟩ := DataW.trod_int Try.underlying32 h4
    obtain ⟨a5, e5, _, w5⟩ := DataW.trod_int Try.underlying32 h5
    obtain ⟨a6, e6, _⟩ := DataW.trod_bool Try.underlying4 h6
    obtain ⟨m7, -, e7⟩ := trod_msg h7
    refine ⟨⟨a0, a1, a2, a3, a4, a5, a6, m7, wf_u32 w3, wf_u32 w4, wf_u32 w5⟩, trivial, ?_⟩
    have p8 : cs.drop 27 = [] := List.drop_eq_nil_of_le (by omega)
    have p7 := piece e7 p8
    have p6 := piece e6 p7
    have p5 := piece e5 p6
    have p4 := piece e4 p5
    have p3 := piece e3 p4
    have p2 := piece e2 p3
    have p1 := piece e1 p2
    have p0 := piece e0 p1
    rw [List.drop_zero] at p0
    rw [p0]
    simp [Stp.cells]
structure Frm where
  sets : Int
  ways : Int
  deriving DecidableEq
def Frm.cells (q : Frm) : List Value := [.int .i64 q.sets, .int .i64 q.ways]
set_option maxRecDepth 100000 in
theorem open_stp {r : Reach} {b0 : Nat} {v : Value} {d : DataW H} {p : List MemPlace} (hv : Value.okWide Try.prog w r b0 45 v) (h : DataW.Trod enc Try.prog w base (fun _ => true) held 45 v d p) : ∃ m : Stp, True ∧ v = .agg (stpE.arr m) :=
  open_rec (E := stpE) (OK := fun _ => True) Try.underlying45 (fun _ _ _ => trod_stp) hv h
end
end Go.Proofs.Ytflnlmibkbojcaa
namespace Go.Proofs.Ytflnlmibkbojcaa
open Go.RowKit
set_option linter.unusedVariables false
theorem walk_CacheAsks (w : World) (a0 : Int) (h0 : (Lit.int .u8 a0).wf = true) (a1 : Int) (h1 : (Lit.int .u8 a1).wf = true) (v2 : Value) (hv2 : ∃ m : Stp, True ∧ v2 = .agg (stpE.arr m)) : Calls Try.prog 5 #[.int .u8 a0, .int .u8 a1, v2] w fun e w' => e = .returned (.bool true) ∧ Below w.heap.size w w' := by
  obtain ⟨m2, -, rfl⟩ := hv2
  refine (asks_c a0 a1 (wf_u8 h0) (wf_u8 h1) m2 w).mono ?_
  rintro e w' ⟨v, rfl, rfl, hn⟩
  exact ⟨rfl, hn.nb⟩
end Go.Proofs.Ytflnlmibkbojcaa
