/-
  Part 3 of what the claim stands on: walks through the code, plain laws.
-/
import Derived.Test.YtflnlmibkbojcaaZRuns2
set_option maxRecDepth 100000
set_option maxHeartbeats 4000000
namespace Go.Proofs.Ytflnlmibkbojcaa
open Go.RowKit
theorem caught_idle (be : Nat) (w : World) : CallsD Try.prog 49 #[.pointer (some ⟨be, 0, none⟩)] (.returning) w (fun e u' w' => e = .returned (.tuple #[]) ∧ u' = .returning ∧ w' = w) := by
 refine fx_enterS (args := #[.pointer (some ⟨be, 0, none⟩)]) Try.func49 rfl (N := (15, [])) (T := [(0, .pointer (some ⟨be, 0, none⟩))]) rfl (show 1 ≤ 15 by decide) ⟨rfl, trivial⟩ rfl rfl (by decide) (fun _ _ => rfl) (u1 := .returning) (rv := .nilIface) (.inl ⟨rfl, rfl, rfl⟩) fun c₀ cs a fr => ?_
 refine wp_block ?_
 refine wp_seq ?_
 refine wp_region_lit ?_
 refine fx_val (v := .bool true) fr rfl rfl (by first | decide | simp) (x_ieqn Try.underlying20 rfl (fr.ev rfl) rfl) ?_
 clear fr a; intro a fr
 refine wpList_nil ?_
 refine fx_next ?_
 refine fx_cond_t fr rfl ?_
 refine wp_region_lit ?_
 refine fx_val (v := .nilIface) fr rfl rfl (by first | decide | simp) (x_assign rfl (fr.ev rfl)) ?_
 clear fr a; intro a fr
 refine wpList_nil ?_
 refine fx_blk ?_
 refine fx_retS fr [] [] rfl trivial rfl ?_
 exact ⟨rfl, rfl, rfl⟩
theorem caught_stop {w : World} {be : Nat} {x0 : Int} (hE : Blk w be 26 #[.int .i64 x0]) (why : Int) : CallsD Try.prog 49 #[.pointer (some ⟨be, 0, none⟩)] (.panicking [{ v := .iface 161 (.agg #[.int .i64 why]), recovered := false }]) w (fun e u' w' => e = .returned (.tuple #[]) ∧ u' = .panicking [{ v := .iface 161 (.agg #[.int .i64 why]), recovered := true }] ∧ Blk w' be 26 #[.int .i64 why] ∧ Only (fun k => k = be) w w') := by
 have hF := Only.refl (fun k => k = be) w
 refine fx_enterS (args := #[.pointer (some ⟨be, 0, none⟩)]) Try.func49 rfl (N := (15, [])) (T := [(0, .pointer (some ⟨be, 0, none⟩))]) rfl (show 1 ≤ 15 by decide) ⟨rfl, trivial⟩ rfl rfl (by decide) (fun _ _ => rfl) (u1 := .panicking [{ v := .iface 161 (.agg #[.int .i64 why]), recovered := true }]) (rv := .iface 161 (.agg #[.int .i64 why])) (.inr ⟨rfl, rfl⟩) fun c₀ cs a fr => ?_
 refine wp_block ?_
 refine wp_seq ?_
 refine wp_region_lit ?_
 refine fx_val (v := .bool false) fr rfl rfl (by first | decide | simp) (x_ieql Try.underlying20 rfl (fr.ev rfl) rfl) ?_
 clear fr a; intro a fr
 refine wpList_nil ?_
 refine fx_next ?_
 refine fx_cond_f fr rfl ?_
 refine wp_seq ?_
 refine wp_region_lit ?_
 refine fx_val (v := .tuple #[.agg (#[.int .i64 why]), .bool true]) fr rfl rfl (by first | decide | simp) (x_typeAssert rfl (fr.ev rfl) Try.underlying161 rfl) ?_
 clear fr a; intro a fr
 refine fx_val (v := .bool true) fr rfl rfl (by first | decide | simp) (x_extract rfl (fr.ev rfl) rfl) ?_
 clear fr a; intro a fr
 refine fx_val (v := .agg (#[.int .i64 why])) fr rfl rfl (by first | decide | simp) (x_extract rfl (fr.ev rfl) rfl) ?_
 clear fr a; intro a fr
 refine wpList_nil ?_
 refine fx_next ?_
 refine fx_cond_t fr rfl ?_
 refine wp_seq ?_
 refine wp_region_lit ?_
 refine fx_new fr rfl rfl (by first | decide | simp) (x_alloc (z := .agg (#[.int .i64 0])) (cs := #[.int .i64 0]) rfl (by kernel_rfl) rfl) ?_
 clear fr a
 intro b1 w2 hN3 B4 hb5 a fr
 have ne_be_b1 : NE be b1 := NE.mk (Nat.lt_of_lt_of_le hE.lt hb5)
 have g_b1 := Nat.le_trans hF.size hb5
 replace hE := hE.new hN3
 replace hF := hF.trNew hN3
 refine fx_storeS sz161 rfl rfl rfl (fr.ev rfl) (fr.ev rfl) (by simp [Value.oneCell']) B4 rfl rfl fun w6 hO7 hBq => ?_
 replace hE := hE.only hO7 (by first | exact ne_be_b1 | exact ne_b1_be.symm | (show ¬ be = b1; omega))
 replace hF := hF.loc hO7 (.inr g_b1)
 replace B4 := hBq
 clear hBq
 refine wpList_nil ?_
 refine fx_next ?_
 refine wp_region_lit ?_
 refine fx_val (v := .pointer (some ⟨be, 0, none⟩)) fr rfl rfl (by first | decide | simp) (x_move rfl (fr.ev rfl)) ?_
 clear fr a; intro a fr
 refine fx_val (v := .pointer (some ⟨b1, 0, none⟩)) fr rfl rfl (by first | decide | simp) (x_fieldAddr fo161_0 rfl (fr.ev rfl) rfl) ?_
 clear fr a; intro a fr
 refine fx_val (v := .int .i64 why) fr rfl rfl (by first | decide | simp) (x_load1 pl26 rfl (fr.ev rfl) (B4.cell 0 rfl)) ?_
 clear fr a; intro a fr
 refine fx_val (v := .pointer (some ⟨be, 0, none⟩)) fr rfl rfl (by first | decide | simp) (x_nilCheck rfl (fr.ev rfl)) ?_
 clear fr a; intro a fr
 refine fx_store1 sz26 rfl rfl rfl (fr.ev rfl) (fr.ev rfl) rfl hE (show 0 < 1 by decide) (cs' := #[.int .i64 why]) rfl fun w8 hO9 hBq => ?_
 replace B4 := B4.only hO9 (by first | exact ne_b1_be | exact ne_be_b1.symm | (show ¬ b1 = be; omega))
 replace hF := hF.loc hO9 (.inl rfl)
 replace hE := hBq
 clear hBq
 refine wpList_nil ?_
 refine fx_blk ?_
 refine fx_retS fr [] [] rfl trivial rfl ?_
 exact ⟨rfl, rfl, hE, hF⟩
def takeEs (b : Nat) : Array MapEntry := #[⟨.int .i64 8, .func (.func 50) #[.pointer (some ⟨b, 0, none⟩)] #[], 0⟩, ⟨.int .i64 9, .func (.func 50) #[.pointer (some ⟨b, 0, none⟩)] #[], 1⟩, ⟨.int .i64 10, .func (.func 50) #[.pointer (some ⟨b, 0, none⟩)] #[], 2⟩, ⟨.int .i64 4, .func (.func 51) #[.pointer (some ⟨b, 0, none⟩)] #[], 3⟩, ⟨.int .i64 5, .func (.func 51) #[.pointer (some ⟨b, 0, none⟩)] #[], 4⟩, ⟨.int .i64 6, .func (.func 52) #[.pointer (some ⟨b, 0, none⟩)] #[], 5⟩, ⟨.int .i64 7, .func (.func 53) #[.pointer (some ⟨b, 0, none⟩)] #[], 6⟩]
theorem take_a1 {w : World} {Fp : Nat → Prop} {b : Nat} {id : Int} {n : Nat} {ways : Int} {L : List Ln} {ask : Option (Int × Bool)} {giv : Option Ln} (H : CacheAt w Fp b ⟨id, n, ways, L, ask, giv⟩) (m : Msg) (hx : chk m ≠ 0) : Calls Try.prog 14 #[.pointer (some ⟨b, 0, none⟩), .agg (msgE.arr m)] w (Ret fun v w' => v = .tuple #[.slice none 0 0, .int .i64 2] ∧ CacheAt w' Fp b ⟨id, n, ways, L, ask, giv⟩ ∧ New w w') := by
 have H0 := H
 obtain ⟨lb, FpL, pa, pg, FpA, FpG, hB, hL, hA, hG, hP⟩ := H0
 dsimp only at hB
 clear hL hA hG
 have hF := Only.refl (fun _ => False) w
 refine ZeD 43 Try.func14 ?_
 refine Zsr ?_
 refine Znb (cs := msgE.arr m) fun b1 w2 hN3 B4 hb5 => ?_
 refine Za ?_
 refine Zna (z := .int .i64 0) (cs := #[.int .i64 0]) (by kernel_rfl) fun b6 w7 hN8 B9 hb10 => ?_
 replace H := H.new hN3
 have ap_Fp_b6 : ¬ Fp b6 := H.apart hb10
 replace hF := hF.trNew hN3
 have g_b6 := Nat.le_trans hF.size hb10
 refine Znn ?_
 refine Zsq ?_
 refine Zbl ?_
 refine Zsr ?_
 refine Zm ?_
 replace hB := (hB.new hN3).new hN8
 refine Zk cf43 (cnone_c hB) ?_
 rintro v w9 ⟨rfl, hw9⟩
 obtain rfl := hw9.symm
 refine Za ?_
 refine Znn ?_
 refine Zcf ?_
 refine Zsq ?_
 refine Zhd (n := 13) (fun w => Blk w b1 35 (msgE.arr m) ∧ True) ?_
 intro w13 hN14
 replace B4 := (B4.new hN8).new hN14
 have hS9 := And.intro B4 trivial
 refine ZhE 0 msgE ag35 hS9 (fun _ ⟨B4, _⟩ => (B4.rangeE msgE)) ?_
 refine Zh1 1 ?_
 refine Zk cf48 (chk_c m _) ?_
 rintro v w15 ⟨rfl, hN16⟩
 replace B4 := B4.new hN16
 refine Zhb ⟨B4, trivial⟩ ?_
 have hS9 := And.intro B4 trivial
 refine Zht 2 rfl (.bool true) hS9 (fun _ fr _ _ => x_neq rfl (fr.ev rfl) rfl (decide_eq_true hx)) ?_
 refine Zhm 3 hS9 ?_
 refine Zhs 4 hS9 ?_
 refine Zhs 5 hS9 ?_
 refine Zhs 6 hS9 ?_
 refine Zhs 7 hS9 ?_
 refine Zhs 8 hS9 ?_
 refine Zhs 9 hS9 ?_
 refine Zhs 10 hS9 ?_
 refine Zht 11 rfl (.bool true) hS9 (fun _ fr _ _ => x_pick_t rfl (fr.ev rfl) rfl) ?_
 refine Zha 12 hS9 ?_
 refine Zhn ?_
 refine Znx ?_
 refine Zct ?_
 refine Zsr ?_
 refine Za ?_
 replace B9 := (B9.new hN14).new hN16
 refine Zs1 (cs' := #[.int .i64 2]) sz26 B9 (show 0 < 1 by decide) rfl fun w17 hO18 hBq => ?_
 replace B9 := hBq
 clear hBq
 refine Znn ?_
 refine Zrt ?_
 refine Zr2 ?_
 refine Zr1 ?_
 intro a fr
 refine fx_retD0 fr [.tmp 4, .cell 5 26] [.slice none 0 0, .int .i64 2] rfl ⟨rfl, ⟨_, rfl, x_loadV1 pl26 (B9.cell 0 rfl)⟩, trivial⟩ rfl ?_
 replace H := (((H.new hN8).new hN14).new hN16).only hO18 (ne1P ap_Fp_b6)
 replace hF := (((hF.trNew hN8).trNew hN14).trNew hN16).loc hO18 (.inr g_b6)
 exact ⟨_, rfl, rfl, H, hF⟩
theorem take_a2 {w : World} {Fp : Nat → Prop} {b : Nat} {id : Int} {n : Nat} {ways : Int} {L : List Ln} {ask : Option (Int × Bool)} {giv : Option Ln} (H : CacheAt w Fp b ⟨id, n, ways, L, ask, giv⟩) (m : Msg) (hc : ¬ chk m ≠ 0) (hx : m.dst ≠ id) : Calls Try.prog 14 #[.pointer (some ⟨b, 0, none⟩), .agg (msgE.arr m)] w (Ret fun v w' => v = .tuple #[.slice none 0 0, .int .i64 2] ∧ CacheAt w' Fp b ⟨id, n, ways, L, ask, giv⟩ ∧ New w w') := by
 have H0 := H
 obtain ⟨lb, FpL, pa, pg, FpA, FpG, hB, hL, hA, hG, hP⟩ := H0
 dsimp only at hB
 clear hL hA hG
 have hF := Only.refl (fun _ => False) w
 refine ZeD 43 Try.func14 ?_
 refine Zsr ?_
 refine Znb (cs := msgE.arr m) fun b1 w2 hN3 B4 hb5 => ?_
 refine Za ?_
 refine Zna (z := .int .i64 0) (cs := #[.int .i64 0]) (by kernel_rfl) fun b6 w7 hN8 B9 hb10 => ?_
 replace H := H.new hN3
 have ap_Fp_b6 : ¬ Fp b6 := H.apart hb10
 replace hF := hF.trNew hN3
 have g_b6 := Nat.le_trans hF.size hb10
 refine Znn ?_
 refine Zsq ?_
 refine Zbl ?_
 refine Zsr ?_
 refine Zm ?_
 replace hB := (hB.new hN3).new hN8
 refine Zk cf43 (cnone_c hB) ?_
 rintro v w9 ⟨rfl, hw9⟩
 obtain rfl := hw9.symm
 refine Za ?_
 refine Znn ?_
 refine Zcf ?_
 refine Zsq ?_
 refine Zhd (n := 13) (fun w => Blk w b 83 #[.int .i64 id, .pointer (some ⟨lb, 0, none⟩), pa, pg] ∧ Blk w b1 35 (msgE.arr m) ∧ True) ?_
 intro w13 hN14
 replace B4 := (B4.new hN8).new hN14
 replace hB := hB.new hN14
 have hS9 := And.intro hB (And.intro B4 trivial)
 refine ZhE 0 msgE ag35 hS9 (fun _ ⟨_, B4, _⟩ => (B4.rangeE msgE)) ?_
 refine Zh1 1 ?_
 refine Zk cf48 (chk_c m _) ?_
 rintro v w15 ⟨rfl, hN16⟩
 replace hB := hB.new hN16
 replace B4 := B4.new hN16
 refine Zhb ⟨hB, B4, trivial⟩ ?_
 have hS9 := And.intro hB (And.intro B4 trivial)
 refine Zht 2 rfl (.bool false) hS9 (fun _ fr _ _ => x_neq rfl (fr.ev rfl) rfl (decide_eq_false hc)) ?_
 refine Zhm 3 hS9 ?_
 refine Zhf 4 fo35_2 hS9 ?_
 refine Zhl (v := .int .i64 m.dst) 5 pl3 hS9 (fun _ ⟨_, B4, _⟩ => (B4.cell 2 rfl)) ?_
 refine Zhm 6 hS9 ?_
 refine Zhc 7 hS9 ?_
 refine Zhf 8 fo83_0 hS9 ?_
 refine Zhl (v := .int .i64 id) 9 pl3 hS9 (fun _ ⟨hB, _⟩ => (hB.cell 0 rfl)) ?_
 refine Zht 10 rfl (.bool true) hS9 (fun _ fr _ _ => x_neq rfl (fr.ev rfl) (fr.ev rfl) (decide_eq_true hx)) ?_
 refine Zht 11 rfl (.bool true) hS9 (fun _ fr _ _ => x_pick_f rfl (fr.ev rfl) (fr.ev rfl)) ?_
 refine Zha 12 hS9 ?_
 refine Zhn ?_
 refine Znx ?_
 refine Zct ?_
 refine Zsr ?_
 refine Za ?_
 replace B9 := (B9.new hN14).new hN16
 refine Zs1 (cs' := #[.int .i64 2]) sz26 B9 (show 0 < 1 by decide) rfl fun w17 hO18 hBq => ?_
 replace B9 := hBq
 clear hBq
 refine Znn ?_
 refine Zrt ?_
 refine Zr2 ?_
 refine Zr1 ?_
 intro a fr
 refine fx_retD0 fr [.tmp 4, .cell 5 26] [.slice none 0 0, .int .i64 2] rfl ⟨rfl, ⟨_, rfl, x_loadV1 pl26 (B9.cell 0 rfl)⟩, trivial⟩ rfl ?_
 replace H := (((H.new hN8).new hN14).new hN16).only hO18 (ne1P ap_Fp_b6)
 replace hF := (((hF.trNew hN8).trNew hN14).trNew hN16).loc hO18 (.inr g_b6)
 exact ⟨_, rfl, rfl, H, hF⟩
theorem take_ret {w : World} {Fp : Nat → Prop} {b : Nat} {id : Int} {n : Nat} {ways : Int} {L : List Ln} {ask : Option (Int × Bool)} {giv : Option Ln} (H : CacheAt w Fp b ⟨id, n, ways, L, ask, giv⟩) (m : Msg) (hck : chk m = 0) (hdn : m.dst = id) {f : Nat} {fn : Func} (hfn : Try.prog.funcs[f]? = some fn) (hnm : (fn.name == "runtime.NumGoroutine") = false) (hbd : fn.body.isNone = false) (hes : (Instr.findNow (.int .i64) (.int .i64 m.kind) (takeEs b).toList 0).map (fun q => (match q with | some (_, u) => u | none => .nilFunc, q.isSome)) = some (.func (.func f) #[.pointer (some ⟨b, 0, none⟩)] #[], true)) {l : List Msg} {d2 : CD} (hc : ∀ w1, Only Fp w w1 → CacheAt w1 Fp b ⟨id, n, ways, L, ask, giv⟩ → Calls Try.prog f #[.pointer (some ⟨b, 0, none⟩), .agg (msgE.arr m)] w1 (Ret fun v w' => ∃ A' cap', v = .slice A' l.length cap' ∧ Own msgE w' A' cap' l ∧ (∀ g, inA A' g → w1.heap.size ≤ g) ∧ ∃ Fp', CacheAt w' Fp' b d2 ∧ Only Fp w1 w' ∧ ∀ g, Fp' g → Fp g ∨ w1.heap.size ≤ g))  : Calls Try.prog 14 #[.pointer (some ⟨b, 0, none⟩), .agg (msgE.arr m)] w (Ret fun v w' => ∃ A' cap', v = .tuple #[.slice A' l.length cap', .int .i64 0] ∧ Own msgE w' A' cap' l ∧ (∀ g, inA A' g → w.heap.size ≤ g) ∧ ∃ Fp', CacheAt w' Fp' b d2 ∧ Only Fp w w' ∧ ∀ g, Fp' g → Fp g ∨ w.heap.size ≤ g) := by
 have H0 := H
 obtain ⟨lb, FpL, pa, pg, FpA, FpG, hB, hL, hA, hG, hP⟩ := H0
 dsimp only at hB
 clear hL hA hG
 have gA_Fp : ∀ g, Fp g → Fp g ∨ w.heap.size ≤ g := fun g hg => .inl hg
 have hF := Only.refl (Fp) w
 refine ZeD 43 Try.func14 ?_
 refine Zsr ?_
 refine Znb (cs := msgE.arr m) fun b1 w2 hN3 B4 hb5 => ?_
 refine Za ?_
 refine Zna (z := .int .i64 0) (cs := #[.int .i64 0]) (by kernel_rfl) fun b6 w7 hN8 B9 hb10 => ?_
 replace H := H.new hN3
 have ap_Fp_b6 : ¬ Fp b6 := H.apart hb10
 replace hF := hF.trNew hN3
 have g_b6 := Nat.le_trans hF.size hb10
 refine Znn ?_
 refine Zsq ?_
 refine Zbl ?_
 refine Zsq ?_
 have hck2 : ¬ chk m ≠ 0 := fun h => h hck
 have hdn2 : ¬ m.dst ≠ id := fun h => h hdn
 refine Zrg ?_
 refine Zm ?_
 replace hB := (hB.new hN3).new hN8
 refine Zk cf43 (cnone_c hB) ?_
 rintro v w9 ⟨rfl, hw9⟩
 obtain rfl := hw9.symm
 refine Za ?_
 refine Znn ?_
 refine Zcf ?_
 refine Zsq ?_
 refine Zhd (n := 13) (fun w => Blk w b 83 #[.int .i64 id, .pointer (some ⟨lb, 0, none⟩), pa, pg] ∧ Blk w b1 35 (msgE.arr m) ∧ True) ?_
 intro w13 hN14
 replace B4 := (B4.new hN8).new hN14
 replace hB := hB.new hN14
 have hS9 := And.intro hB (And.intro B4 trivial)
 refine ZhE 0 msgE ag35 hS9 (fun _ ⟨_, B4, _⟩ => (B4.rangeE msgE)) ?_
 refine Zh1 1 ?_
 refine Zk cf48 (chk_c m _) ?_
 rintro v w15 ⟨rfl, hN16⟩
 replace hB := hB.new hN16
 replace B4 := B4.new hN16
 refine Zhb ⟨hB, B4, trivial⟩ ?_
 have hS9 := And.intro hB (And.intro B4 trivial)
 refine Zht 2 rfl (.bool false) hS9 (fun _ fr _ _ => x_neq rfl (fr.ev rfl) rfl (decide_eq_false hck2)) ?_
 refine Zhm 3 hS9 ?_
 refine Zhf 4 fo35_2 hS9 ?_
 refine Zhl (v := .int .i64 m.dst) 5 pl3 hS9 (fun _ ⟨_, B4, _⟩ => (B4.cell 2 rfl)) ?_
 refine Zhm 6 hS9 ?_
 refine Zhc 7 hS9 ?_
 refine Zhf 8 fo83_0 hS9 ?_
 refine Zhl (v := .int .i64 id) 9 pl3 hS9 (fun _ ⟨hB, _⟩ => (hB.cell 0 rfl)) ?_
 refine Zht 10 rfl (.bool false) hS9 (fun _ fr _ _ => x_neq rfl (fr.ev rfl) (fr.ev rfl) (decide_eq_false hdn2)) ?_
 refine Zht 11 rfl (.bool false) hS9 (fun _ fr _ _ => x_pick_f rfl (fr.ev rfl) (fr.ev rfl)) ?_
 refine Zha 12 hS9 ?_
 refine Zhn ?_
 refine Znx ?_
 refine Zcf ?_
 refine Zsk ?_
 refine Zb ?_
 refine Znx ?_
 refine Zsr ?_
 intro a fr
 refine fx_defer fr rfl rfl (x_defer (vs := [.pointer (some ⟨b6, 0, none⟩)]) rfl rfl ⟨(fr.ev rfl), trivial⟩) ?_
 clear fr a
 refine Znn ?_
 refine Zsr ?_
 intro a fr
 refine fx_makeMap fr rfl rfl rfl (by first | decide | simp) ?_
 clear fr a
 intro r17 w18 hN19 M20 hb21
 replace H := ((H.new hN8).new hN14).new hN16
 have ap_Fp_r17 : ¬ Fp r17 := H.apart hb21
 have ne_b1_r17 : NE b1 r17 := NE.mk (Nat.lt_of_lt_of_le B4.lt hb21)
 replace B9 := (B9.new hN14).new hN16
 have ne_b6_r17 : NE b6 r17 := NE.mk (Nat.lt_of_lt_of_le B9.lt hb21)
 replace hF := ((hF.trNew hN8).trNew hN14).trNew hN16
 have g_r17 := Nat.le_trans hF.size hb21
 refine Zm ?_
 refine Zv _ (fun _ fr => x_makeBound rfl (fr.ev rfl)) ?_
 intro a fr
 refine fx_insert (es' := #[⟨.int .i64 8, .func (.func 50) #[.pointer (some ⟨b, 0, none⟩)] #[], 0⟩]) Try.underlying115 Try.underlying33 rfl rfl rfl (fr.ev rfl) rfl (fr.ev rfl) M20 rfl rfl fun w22 hO23 hBq => ?_
 revert a
 replace M20 := hBq
 clear hBq
 refine Zm ?_
 refine Zv _ (fun _ fr => x_makeBound rfl (fr.ev rfl)) ?_
 intro a fr
 refine fx_insert (es' := #[⟨.int .i64 8, .func (.func 50) #[.pointer (some ⟨b, 0, none⟩)] #[], 0⟩, ⟨.int .i64 9, .func (.func 50) #[.pointer (some ⟨b, 0, none⟩)] #[], 1⟩]) Try.underlying115 Try.underlying33 rfl rfl rfl (fr.ev rfl) rfl (fr.ev rfl) M20 rfl rfl fun w24 hO25 hBq => ?_
 revert a
 replace M20 := hBq
 clear hBq
 refine Zm ?_
 refine Zv _ (fun _ fr => x_makeBound rfl (fr.ev rfl)) ?_
 intro a fr
 refine fx_insert (es' := #[⟨.int .i64 8, .func (.func 50) #[.pointer (some ⟨b, 0, none⟩)] #[], 0⟩, ⟨.int .i64 9, .func (.func 50) #[.pointer (some ⟨b, 0, none⟩)] #[], 1⟩, ⟨.int .i64 10, .func (.func 50) #[.pointer (some ⟨b, 0, none⟩)] #[], 2⟩]) Try.underlying115 Try.underlying33 rfl rfl rfl (fr.ev rfl) rfl (fr.ev rfl) M20 rfl rfl fun w26 hO27 hBq => ?_
 revert a
 replace M20 := hBq
 clear hBq
 refine Zm ?_
 refine Zv _ (fun _ fr => x_makeBound rfl (fr.ev rfl)) ?_
 intro a fr
 refine fx_insert (es' := #[⟨.int .i64 8, .func (.func 50) #[.pointer (some ⟨b, 0, none⟩)] #[], 0⟩, ⟨.int .i64 9, .func (.func 50) #[.pointer (some ⟨b, 0, none⟩)] #[], 1⟩, ⟨.int .i64 10, .func (.func 50) #[.pointer (some ⟨b, 0, none⟩)] #[], 2⟩, ⟨.int .i64 4, .func (.func 51) #[.pointer (some ⟨b, 0, none⟩)] #[], 3⟩]) Try.underlying115 Try.underlying33 rfl rfl rfl (fr.ev rfl) rfl (fr.ev rfl) M20 rfl rfl fun w28 hO29 hBq => ?_
 revert a
 replace M20 := hBq
 clear hBq
 refine Zm ?_
 refine Zv _ (fun _ fr => x_makeBound rfl (fr.ev rfl)) ?_
 intro a fr
 refine fx_insert (es' := #[⟨.int .i64 8, .func (.func 50) #[.pointer (some ⟨b, 0, none⟩)] #[], 0⟩, ⟨.int .i64 9, .func (.func 50) #[.pointer (some ⟨b, 0, none⟩)] #[], 1⟩, ⟨.int .i64 10, .func (.func 50) #[.pointer (some ⟨b, 0, none⟩)] #[], 2⟩, ⟨.int .i64 4, .func (.func 51) #[.pointer (some ⟨b, 0, none⟩)] #[], 3⟩, ⟨.int .i64 5, .func (.func 51) #[.pointer (some ⟨b, 0, none⟩)] #[], 4⟩]) Try.underlying115 Try.underlying33 rfl rfl rfl (fr.ev rfl) rfl (fr.ev rfl) M20 rfl rfl fun w30 hO31 hBq => ?_
 revert a
 replace M20 := hBq
 clear hBq
 refine Zm ?_
 refine Zv _ (fun _ fr => x_makeBound rfl (fr.ev rfl)) ?_
 intro a fr
 refine fx_insert (es' := #[⟨.int .i64 8, .func (.func 50) #[.pointer (some ⟨b, 0, none⟩)] #[], 0⟩, ⟨.int .i64 9, .func (.func 50) #[.pointer (some ⟨b, 0, none⟩)] #[], 1⟩, ⟨.int .i64 10, .func (.func 50) #[.pointer (some ⟨b, 0, none⟩)] #[], 2⟩, ⟨.int .i64 4, .func (.func 51) #[.pointer (some ⟨b, 0, none⟩)] #[], 3⟩, ⟨.int .i64 5, .func (.func 51) #[.pointer (some ⟨b, 0, none⟩)] #[], 4⟩, ⟨.int .i64 6, .func (.func 52) #[.pointer (some ⟨b, 0, none⟩)] #[], 5⟩]) Try.underlying115 Try.underlying33 rfl rfl rfl (fr.ev rfl) rfl (fr.ev rfl) M20 rfl rfl fun w32 hO33 hBq => ?_
 revert a
 replace M20 := hBq
 clear hBq
 refine Zm ?_
 refine Zv _ (fun _ fr => x_makeBound rfl (fr.ev rfl)) ?_
 intro a fr
 refine fx_insert (es' := #[⟨.int .i64 8, .func (.func 50) #[.pointer (some ⟨b, 0, none⟩)] #[], 0⟩, ⟨.int .i64 9, .func (.func 50) #[.pointer (some ⟨b, 0, none⟩)] #[], 1⟩, ⟨.int .i64 10, .func (.func 50) #[.pointer (some ⟨b, 0, none⟩)] #[], 2⟩, ⟨.int .i64 4, .func (.func 51) #[.pointer (some ⟨b, 0, none⟩)] #[], 3⟩, ⟨.int .i64 5, .func (.func 51) #[.pointer (some ⟨b, 0, none⟩)] #[], 4⟩, ⟨.int .i64 6, .func (.func 52) #[.pointer (some ⟨b, 0, none⟩)] #[], 5⟩, ⟨.int .i64 7, .func (.func 53) #[.pointer (some ⟨b, 0, none⟩)] #[], 6⟩]) Try.underlying115 Try.underlying33 rfl rfl rfl (fr.ev rfl) rfl (fr.ev rfl) M20 rfl rfl fun w34 hO35 hBq => ?_
 revert a
 replace M20 := hBq
 clear hBq
 refine Zm ?_
 refine Zf fo35_0 ?_
 replace B4 := (((((((B4.new hN19).only hO23 ne_b1_r17).only hO25 ne_b1_r17).only hO27 ne_b1_r17).only hO29 ne_b1_r17).only hO31 ne_b1_r17).only hO33 ne_b1_r17).only hO35 ne_b1_r17
 refine Zd (v := .int .i64 m.kind) pl33 (B4.cell 0 rfl) ?_
 refine Zv (.func (.func f) #[.pointer (some ⟨b, 0, none⟩)] #[]) (fun _ fr => x_lookup (k := .i64) (ok := false) (v := .func (.func f) #[.pointer (some ⟨b, 0, none⟩)] #[]) (b := true) Try.underlying115 Try.underlying33 rfl (fr.ev rfl) (fr.ev rfl) M20 (z := .nilFunc) (by kernel_rfl) hes) ?_
 refine ZE msgE ag35 (B4.rangeE msgE) ?_
 replace H := (((((((H.new hN19).only hO23 (ne1P ap_Fp_r17)).only hO25 (ne1P ap_Fp_r17)).only hO27 (ne1P ap_Fp_r17)).only hO29 (ne1P ap_Fp_r17)).only hO31 (ne1P ap_Fp_r17)).only hO33 (ne1P ap_Fp_r17)).only hO35 (ne1P ap_Fp_r17)
 replace hF := (((((((hF.trNew hN19).loc hO23 (.inr g_r17)).loc hO25 (.inr g_r17)).loc hO27 (.inr g_r17)).loc hO29 (.inr g_r17)).loc hO31 (.inr g_r17)).loc hO33 (.inr g_r17)).loc hO35 (.inr g_r17)
 refine Zkx (fun _ fr => x_callb (all := #[.pointer (some ⟨b, 0, none⟩), .agg (msgE.arr m)]) (vs := [.agg (msgE.arr m)]) rfl (fr.ev rfl) ⟨(fr.ev rfl), trivial⟩ rfl hfn hnm hbd) (hc _ hF H) ?_
 rintro v w43 ⟨A36, cap37, rfl, O38, hA39, Fp40, H41, hN44, mv42⟩
 clear H
 have gN_A36 := fun g (hg : inA A36 g) => Nat.le_trans hF.size (hA39 g hg)
 replace B9 := (((((((B9.new hN19).only hO23 ne_b6_r17).only hO25 ne_b6_r17).only hO27 ne_b6_r17).only hO29 ne_b6_r17).only hO31 ne_b6_r17).only hO33 ne_b6_r17).only hO35 ne_b6_r17
 have ap_Fp40_b6 : ¬ Fp40 b6 := moved_apartP mv42 ap_Fp_b6 B9.lt
 have ap_A36_b6 : Apart A36 b6 := new_apart hA39 B9.lt
 have gA_Fp40 := gA_movedP hF mv42 gA_Fp
 refine Za ?_
 replace B9 := B9.only hN44 ap_Fp_b6
 refine Zs1 (cs' := #[.int .i64 0]) sz26 B9 (show 0 < 1 by decide) rfl fun w45 hO46 hBq => ?_
 replace B9 := hBq
 clear hBq
 refine Znn ?_
 refine Zrt ?_
 intro a fr
 refine fx_retD1 fr rfl (caught_idle b6 _) [.tmp 4, .cell 5 26] [.slice A36 l.length cap37, .int .i64 0] rfl ⟨rfl, ⟨_, rfl, x_loadV1 pl26 (B9.cell 0 rfl)⟩, trivial⟩ rfl ?_
 replace hF := (hF.locP hN44 gA_Fp).loc hO46 (.inr g_b6)
 replace O38 := O38.only hO46 (Apart.ne1 ap_A36_b6)
 replace H41 := H41.only hO46 (ne1P ap_Fp40_b6)
 exact ⟨_, rfl, A36, cap37, rfl, O38, gN_A36, Fp40, H41, hF, gA_Fp40⟩
theorem take_pan {w : World} {Fp : Nat → Prop} {b : Nat} {id : Int} {n : Nat} {ways : Int} {L : List Ln} {ask : Option (Int × Bool)} {giv : Option Ln} (H : CacheAt w Fp b ⟨id, n, ways, L, ask, giv⟩) (m : Msg) (hck : chk m = 0) (hdn : m.dst = id) {f : Nat} {fn : Func} (hfn : Try.prog.funcs[f]? = some fn) (hnm : (fn.name == "runtime.NumGoroutine") = false) (hbd : fn.body.isNone = false) (hes : (Instr.findNow (.int .i64) (.int .i64 m.kind) (takeEs b).toList 0).map (fun q => (match q with | some (_, u) => u | none => .nilFunc, q.isSome)) = some (.func (.func f) #[.pointer (some ⟨b, 0, none⟩)] #[], true)) (hc : ∀ w1, New w w1 → CacheAt w1 Fp b ⟨id, n, ways, L, ask, giv⟩ → Calls Try.prog f #[.pointer (some ⟨b, 0, none⟩), .agg (msgE.arr m)] w1 (Pan fun c w' => c = stopE 220 ∧ New w1 w'))  : Calls Try.prog 14 #[.pointer (some ⟨b, 0, none⟩), .agg (msgE.arr m)] w (Ret fun v w' => v = .tuple #[.slice none 0 0, .int .i64 220] ∧ CacheAt w' Fp b ⟨id, n, ways, L, ask, giv⟩ ∧ New w w') := by
 have H0 := H
 obtain ⟨lb, FpL, pa, pg, FpA, FpG, hB, hL, hA, hG, hP⟩ := H0
 dsimp only at hB
 clear hL hA hG
 have hF := Only.refl (fun _ => False) w
 refine ZeD 43 Try.func14 ?_
 refine Zsr ?_
 refine Znb (cs := msgE.arr m) fun b1 w2 hN3 B4 hb5 => ?_
 refine Za ?_
 refine Zna (z := .int .i64 0) (cs := #[.int .i64 0]) (by kernel_rfl) fun b6 w7 hN8 B9 hb10 => ?_
 replace H := H.new hN3
 have ap_Fp_b6 : ¬ Fp b6 := H.apart hb10
 replace hF := hF.trNew hN3
 have g_b6 := Nat.le_trans hF.size hb10
 refine Znn ?_
 refine Zsq ?_
 refine Zbl ?_
 refine Zsq ?_
 have hck2 : ¬ chk m ≠ 0 := fun h => h hck
 have hdn2 : ¬ m.dst ≠ id := fun h => h hdn
 refine Zrg ?_
 refine Zm ?_
 replace hB := (hB.new hN3).new hN8
 refine Zk cf43 (cnone_c hB) ?_
 rintro v w9 ⟨rfl, hw9⟩
 obtain rfl := hw9.symm
 refine Za ?_
 refine Znn ?_
 refine Zcf ?_
 refine Zsq ?_
 refine Zhd (n := 13) (fun w => Blk w b 83 #[.int .i64 id, .pointer (some ⟨lb, 0, none⟩), pa, pg] ∧ Blk w b1 35 (msgE.arr m) ∧ True) ?_
 intro w13 hN14
 replace B4 := (B4.new hN8).new hN14
 replace hB := hB.new hN14
 have hS9 := And.intro hB (And.intro B4 trivial)
 refine ZhE 0 msgE ag35 hS9 (fun _ ⟨_, B4, _⟩ => (B4.rangeE msgE)) ?_
 refine Zh1 1 ?_
 refine Zk cf48 (chk_c m _) ?_
 rintro v w15 ⟨rfl, hN16⟩
 replace hB := hB.new hN16
 replace B4 := B4.new hN16
 refine Zhb ⟨hB, B4, trivial⟩ ?_
 have hS9 := And.intro hB (And.intro B4 trivial)
 refine Zht 2 rfl (.bool false) hS9 (fun _ fr _ _ => x_neq rfl (fr.ev rfl) rfl (decide_eq_false hck2)) ?_
 refine Zhm 3 hS9 ?_
 refine Zhf 4 fo35_2 hS9 ?_
 refine Zhl (v := .int .i64 m.dst) 5 pl3 hS9 (fun _ ⟨_, B4, _⟩ => (B4.cell 2 rfl)) ?_
 refine Zhm 6 hS9 ?_
 refine Zhc 7 hS9 ?_
 refine Zhf 8 fo83_0 hS9 ?_
 refine Zhl (v := .int .i64 id) 9 pl3 hS9 (fun _ ⟨hB, _⟩ => (hB.cell 0 rfl)) ?_
 refine Zht 10 rfl (.bool false) hS9 (fun _ fr _ _ => x_neq rfl (fr.ev rfl) (fr.ev rfl) (decide_eq_false hdn2)) ?_
 refine Zht 11 rfl (.bool false) hS9 (fun _ fr _ _ => x_pick_f rfl (fr.ev rfl) (fr.ev rfl)) ?_
 refine Zha 12 hS9 ?_
 refine Zhn ?_
 refine Znx ?_
 refine Zcf ?_
 refine Zsk ?_
 refine Zb ?_
 refine Znx ?_
 refine Zsr ?_
 intro a fr
 refine fx_defer fr rfl rfl (x_defer (vs := [.pointer (some ⟨b6, 0, none⟩)]) rfl rfl ⟨(fr.ev rfl), trivial⟩) ?_
 clear fr a
 refine Znn ?_
 refine Zsr ?_
 intro a fr
 refine fx_makeMap fr rfl rfl rfl (by first | decide | simp) ?_
 clear fr a
 intro r17 w18 hN19 M20 hb21
 replace H := ((H.new hN8).new hN14).new hN16
 have ap_Fp_r17 : ¬ Fp r17 := H.apart hb21
 have ne_b1_r17 : NE b1 r17 := NE.mk (Nat.lt_of_lt_of_le B4.lt hb21)
 replace B9 := (B9.new hN14).new hN16
 have ne_b6_r17 : NE b6 r17 := NE.mk (Nat.lt_of_lt_of_le B9.lt hb21)
 replace hF := ((hF.trNew hN8).trNew hN14).trNew hN16
 have g_r17 := Nat.le_trans hF.size hb21
 refine Zm ?_
 refine Zv _ (fun _ fr => x_makeBound rfl (fr.ev rfl)) ?_
 intro a fr
 refine fx_insert (es' := #[⟨.int .i64 8, .func (.func 50) #[.pointer (some ⟨b, 0, none⟩)] #[], 0⟩]) Try.underlying115 Try.underlying33 rfl rfl rfl (fr.ev rfl) rfl (fr.ev rfl) M20 rfl rfl fun w22 hO23 hBq => ?_
 revert a
 replace M20 := hBq
 clear hBq
 refine Zm ?_
 refine Zv _ (fun _ fr => x_makeBound rfl (fr.ev rfl)) ?_
 intro a fr
 refine fx_insert (es' := #[⟨.int .i64 8, .func (.func 50) #[.pointer (some ⟨b, 0, none⟩)] #[], 0⟩, ⟨.int .i64 9, .func (.func 50) #[.pointer (some ⟨b, 0, none⟩)] #[], 1⟩]) Try.underlying115 Try.underlying33 rfl rfl rfl (fr.ev rfl) rfl (fr.ev rfl) M20 rfl rfl fun w24 hO25 hBq => ?_
 revert a
 replace M20 := hBq
 clear hBq
 refine Zm ?_
 refine Zv _ (fun _ fr => x_makeBound rfl (fr.ev rfl)) ?_
 intro a fr
 refine fx_insert (es' := #[⟨.int .i64 8, .func (.func 50) #[.pointer (some ⟨b, 0, none⟩)] #[], 0⟩, ⟨.int .i64 9, .func (.func 50) #[.pointer (some ⟨b, 0, none⟩)] #[], 1⟩, ⟨.int .i64 10, .func (.func 50) #[.pointer (some ⟨b, 0, none⟩)] #[], 2⟩]) Try.underlying115 Try.underlying33 rfl rfl rfl (fr.ev rfl) rfl (fr.ev rfl) M20 rfl rfl fun w26 hO27 hBq => ?_
 revert a
 replace M20 := hBq
 clear hBq
 refine Zm ?_
 refine Zv _ (fun _ fr => x_makeBound rfl (fr.ev rfl)) ?_
 intro a fr
 refine fx_insert (es' := #[⟨.int .i64 8, .func (.func 50) #[.pointer (some ⟨b, 0, none⟩)] #[], 0⟩, ⟨.int .i64 9, .func (.func 50) #[.pointer (some ⟨b, 0, none⟩)] #[], 1⟩, ⟨.int .i64 10, .func (.func 50) #[.pointer (some ⟨b, 0, none⟩)] #[], 2⟩, ⟨.int .i64 4, .func (.func 51) #[.pointer (some ⟨b, 0, none⟩)] #[], 3⟩]) Try.underlying115 Try.underlying33 rfl rfl rfl (fr.ev rfl) rfl (fr.ev rfl) M20 rfl rfl fun w28 hO29 hBq => ?_
 revert a
 replace M20 := hBq
 clear hBq
 refine Zm ?_
 refine Zv _ (fun _ fr => x_makeBound rfl (fr.ev rfl)) ?_
 intro a fr
 refine fx_insert (es' := #[⟨.int .i64 8, .func (.func 50) #[.pointer (some ⟨b, 0, none⟩)] #[], 0⟩, ⟨.int .i64 9, .func (.func 50) #[.pointer (some ⟨b, 0, none⟩)] #[], 1⟩, ⟨.int .i64 10, .func (.func 50) #[.pointer (some ⟨b, 0, none⟩)] #[], 2⟩, ⟨.int .i64 4, .func (.func 51) #[.pointer (some ⟨b, 0, none⟩)] #[], 3⟩, ⟨.int .i64 5, .func (.func 51) #[.pointer (some ⟨b, 0, none⟩)] #[], 4⟩]) Try.underlying115 Try.underlying33 rfl rfl rfl (fr.ev rfl) rfl (fr.ev rfl) M20 rfl rfl fun w30 hO31 hBq => ?_
 revert a
 replace M20 := hBq
 clear hBq
 refine Zm ?_
 refine Zv _ (fun _ fr => x_makeBound rfl (fr.ev rfl)) ?_
 intro a fr
 refine fx_insert (es' := #[⟨.int .i64 8, .func (.func 50) #[.pointer (some ⟨b, 0, none⟩)] #[], 0⟩, ⟨.int .i64 9, .func (.func 50) #[.pointer (some ⟨b, 0, none⟩)] #[], 1⟩, ⟨.int .i64 10, .func (.func 50) #[.pointer (some ⟨b, 0, none⟩)] #[], 2⟩, ⟨.int .i64 4, .func (.func 51) #[.pointer (some ⟨b, 0, none⟩)] #[], 3⟩, ⟨.int .i64 5, .func (.func 51) #[.pointer (some ⟨b, 0, none⟩)] #[], 4⟩, ⟨.int .i64 6, .func (.func 52) #[.pointer (some ⟨b, 0, none⟩)] #[], 5⟩]) Try.underlying115 Try.underlying33 rfl rfl rfl (fr.ev rfl) rfl (fr.ev rfl) M20 rfl rfl fun w32 hO33 hBq => ?_
 revert a
 replace M20 := hBq
 clear hBq
 refine Zm ?_
 refine Zv _ (fun _ fr => x_makeBound rfl (fr.ev rfl)) ?_
 intro a fr
 refine fx_insert (es' := #[⟨.int .i64 8, .func (.func 50) #[.pointer (some ⟨b, 0, none⟩)] #[], 0⟩, ⟨.int .i64 9, .func (.func 50) #[.pointer (some ⟨b, 0, none⟩)] #[], 1⟩, ⟨.int .i64 10, .func (.func 50) #[.pointer (some ⟨b, 0, none⟩)] #[], 2⟩, ⟨.int .i64 4, .func (.func 51) #[.pointer (some ⟨b, 0, none⟩)] #[], 3⟩, ⟨.int .i64 5, .func (.func 51) #[.pointer (some ⟨b, 0, none⟩)] #[], 4⟩, ⟨.int .i64 6, .func (.func 52) #[.pointer (some ⟨b, 0, none⟩)] #[], 5⟩, ⟨.int .i64 7, .func (.func 53) #[.pointer (some ⟨b, 0, none⟩)] #[], 6⟩]) Try.underlying115 Try.underlying33 rfl rfl rfl (fr.ev rfl) rfl (fr.ev rfl) M20 rfl rfl fun w34 hO35 hBq => ?_
 revert a
 replace M20 := hBq
 clear hBq
 refine Zm ?_
 refine Zf fo35_0 ?_
 replace B4 := (((((((B4.new hN19).only hO23 ne_b1_r17).only hO25 ne_b1_r17).only hO27 ne_b1_r17).only hO29 ne_b1_r17).only hO31 ne_b1_r17).only hO33 ne_b1_r17).only hO35 ne_b1_r17
 refine Zd (v := .int .i64 m.kind) pl33 (B4.cell 0 rfl) ?_
 refine Zv (.func (.func f) #[.pointer (some ⟨b, 0, none⟩)] #[]) (fun _ fr => x_lookup (k := .i64) (ok := false) (v := .func (.func f) #[.pointer (some ⟨b, 0, none⟩)] #[]) (b := true) Try.underlying115 Try.underlying33 rfl (fr.ev rfl) (fr.ev rfl) M20 (z := .nilFunc) (by kernel_rfl) hes) ?_
 refine ZE msgE ag35 (B4.rangeE msgE) ?_
 intro a fr
 replace H := (((((((H.new hN19).only hO23 (ne1P ap_Fp_r17)).only hO25 (ne1P ap_Fp_r17)).only hO27 (ne1P ap_Fp_r17)).only hO29 (ne1P ap_Fp_r17)).only hO31 (ne1P ap_Fp_r17)).only hO33 (ne1P ap_Fp_r17)).only hO35 (ne1P ap_Fp_r17)
 replace hF := (((((((hF.trNew hN19).loc hO23 (.inr g_r17)).loc hO25 (.inr g_r17)).loc hO27 (.inr g_r17)).loc hO29 (.inr g_r17)).loc hO31 (.inr g_r17)).loc hO33 (.inr g_r17)).loc hO35 (.inr g_r17)
 refine fx_callp rfl (x_callb (all := #[.pointer (some ⟨b, 0, none⟩), .agg (msgE.arr m)]) (vs := [.agg (msgE.arr m)]) rfl (fr.ev rfl) ⟨(fr.ev rfl), trivial⟩ rfl hfn hnm hbd) (hc _ hF H) ?_
 rintro _ w36 ⟨rfl, hN37⟩
 refine fx_pt ?_
 replace B9 := ((((((((B9.new hN19).only hO23 ne_b6_r17).only hO25 ne_b6_r17).only hO27 ne_b6_r17).only hO29 ne_b6_r17).only hO31 ne_b6_r17).only hO33 ne_b6_r17).only hO35 ne_b6_r17).new hN37
 refine fx_panD1 fr rfl (caught_stop B9 220) [.tmp 4, .cell 5 26] [.slice none 0 0, .int .i64 220] rfl ?_
 rintro w9 ⟨hE9, hO9⟩
 refine ⟨⟨rfl, ⟨_, rfl, x_loadV1 pl26 (hE9.cell 0 rfl)⟩, trivial⟩, ?_⟩
 replace H := (H.new hN37).only hO9 (ne1P ap_Fp_b6)
 replace hF := (hF.trNew hN37).loc hO9 (.inr g_b6)
 exact ⟨_, rfl, rfl, H, hF⟩
end Go.Proofs.Ytflnlmibkbojcaa
namespace Go.Proofs.Ytflnlmibkbojcaa
open Go.RowKit
theorem appseq_c {w : World} {Fp : Nat → Prop} {b n : Nat} {ways : Int} {L : List Ln} (H : LinesAt w Fp b n ways L) {bn : Nat} (Bn : Blk w bn 79 #[.pointer (some ⟨b, 0, none⟩)]) (ap_Fp_bn : ¬ Fp bn) (hl : L.length ≤ 100000) : Calls Try.prog 81 #[.slice none 0 0, .func (.func 82) #[] #[.pointer (some ⟨bn, 0, none⟩)]] w (Ret fun v w' => ∃ A' cap', v = .slice A' (allL n L).length cap' ∧ Own lnE w' A' cap' (allL n L) ∧ (∀ g, inA A' g → w.heap.size ≤ g) ∧ New w w') := by
 have hxs := allL_len (H.bd).1 L
 have hF := Only.refl (fun _ => False) w
 refine fx_enterM Try.func81 rfl (N := (13, [])) (T := [(0, .slice none 0 0), (1, .func (.func 82) #[] #[.pointer (some ⟨bn, 0, none⟩)])]) rfl (show 2 ≤ 13 by decide) ⟨rfl, rfl, trivial⟩ fun a fr => ?_
 refine wp_seq ?_
 refine wp_region_lit ?_
 refine fx_new fr rfl rfl (by first | decide | simp) (x_box (cs := #[.slice none 0 0]) rfl (fr.ev rfl) rfl) ?_
 clear fr a
 intro b1 w2 hN3 B4 hb5 a fr
 have ap_Fp_b1 : ¬ Fp b1 := H.apart hb5
 have ne_bn_b1 : NE bn b1 := NE.mk (Nat.lt_of_lt_of_le Bn.lt hb5)
 have g_b1 := Nat.le_trans hF.size hb5
 replace H := H.new hN3
 replace Bn := Bn.new hN3
 replace hF := hF.trNew hN3
 refine fx_val (v := .slice none 0 0) fr rfl rfl (by first | decide | simp) (x_assign rfl rfl) ?_
 clear fr a; intro a fr
 refine wpList_nil ?_
 refine fx_next ?_
 refine wp_seq ?_
 refine wp_seq ?_
 refine wp_region_lit ?_
 refine fx_val (v := .func (.func 82) #[] #[.pointer (some ⟨bn, 0, none⟩)]) fr rfl rfl (by first | decide | simp) (x_move rfl (fr.ev rfl)) ?_
 clear fr a; intro a fr
 refine wpList_nil ?_
 refine fx_next ?_
 refine wp_block ?_
 have lt_b1 := B4.lt
 refine fx_range (xs := allL n L) (e := fun x : Ln => Value.agg (lnE.arr x)) fr rfl (show 7 < 13 by decide) (enters_of Try.func82 nm82 rfl) (SI := fun k => k = b1 ∨ w2.heap.size ≤ k) (fun _ h => .inr h) (all_stops H Bn (fun h => h.elim (by first | exact ne_bn_b1 | exact ne_b1_bn.symm | (show ¬ bn = b1; omega)) (fun h => by have := Bn.lt; omega)) (fun g hg => (fun h => h.elim ((ne1P ap_Fp_b1) g hg) (fun h => by have := H.lt hg; omega)))) (fun pre W => ∃ A : Option Addr, ∃ cap : Nat, Blk W b1 40 #[.slice A pre.length cap] ∧ Own lnE W A cap pre ∧ Only (fun k => k = b1) w2 W ∧ ∀ g, inA A g → w2.heap.size ≤ g) (fun c pre W => False) (fun x a' W => ∃ b6 : Nat, Blk W b6 39 (lnE.arr x) ∧ w2.heap.size ≤ b6 ∧ Fr (13, []) [(0, .slice none 0 0), (1, .func (.func 82) #[] #[.pointer (some ⟨bn, 0, none⟩)]), (2, .pointer (some ⟨b1, 0, none⟩)), (4, .slice none 0 0), (6, .func (.func 82) #[] #[.pointer (some ⟨bn, 0, none⟩)]), (7, .agg (lnE.arr x)), (5, .pointer (some ⟨b6, 0, none⟩))] a') ?_ ?_ ?_ ?_ ⟨none, 0, B4, Own.nil, Only.refl _ _, (fun g hg => absurd hg (apart_none g))⟩ ?_ ?_ ?_ ?_
 ·rintro pre W W' ⟨A, cap, Bo, Oc, hC, hg_A⟩ hT; exact ⟨A, cap, Bo.turn hT, Oc.turn hT, hC.turn hT (Nat.le_refl _), hg_A⟩
 ·exact fun _ _ _ _ h _ => h.elim
 ·rintro x a' _ W W' ⟨b6, B9, h_b6, hf⟩ hT; exact ⟨b6, B9.turn hT, h_b6, hf⟩
 ·rintro pre W W' ⟨A, cap, Bo, Oc, hC, hg_A⟩ hN; exact ⟨A, cap, Bo.new hN, Oc.new hN, hC.trNew hN, hg_A⟩
 ·skip
  rintro l pre x W K ⟨A, cap, Bo, Oc, hC, hg_A⟩ hK a fr
  have hF := Only.refl (fun _ => False) W
  refine fxr_region (by kernel_rfl) (by rintro ⟨_, _, h⟩; exact h) ?_
  refine fx_new fr rfl rfl (by first | decide | simp) (x_alloc (z := .agg (#[.int .u32 0, .int .i64 0, .int .u8 0, .int .u8 0, .int .u8 0, .int .u8 0, .int .u8 0, .int .u8 0, .int .u8 0, .int .u8 0, .int .u8 0, .int .u8 0, .int .u8 0, .int .u8 0, .int .u8 0, .int .u8 0, .int .u8 0, .int .u8 0])) (cs := lnE.arr ln0) rfl (by kernel_rfl) rfl) ?_
  clear fr a
  intro b6 w7 hN8 B9 hb10 a fr
  have g_b6 := Nat.le_trans hF.size hb10
  replace hF := hF.trNew hN8
  refine fx_storeS sz39 rfl rfl rfl (fr.ev rfl) (fr.ev rfl) (lnE.all _) B9 (lnE.size _) (lnE.size _) fun w11 hO12 hBq => ?_
  replace hF := hF.loc hO12 (.inr g_b6)
  replace B9 := hBq
  clear hBq
  refine wpList_nil ?_
  refine hK _ _ hF ⟨b6, B9, Nat.le_trans hC.size g_b6, fr.sub ⟨rfl, rfl, rfl, rfl, rfl, rfl, rfl, trivial⟩⟩
 ·skip
  rintro lq pre x a W ⟨A, cap, Bo, Oc, hC, hg_A⟩ ⟨b6, B9, h_b6, fr⟩ hlen
  have ne_b1_b6 : NE b1 b6 := NE.mk (Nat.lt_of_lt_of_le lt_b1 h_b6)
  have ap_A_b1 : Apart A b1 := fun h => by have := hg_A _ h; omega
  have cl_b1 := Bo.cells
  have cl_A := fun g (hg : inA A g) => Oc.cells hg
  have hF := Only.refl (fun k => k = b1 ∨ inA A k) W
  have gA_A : ∀ g, inA A g → (fun k => k = b1 ∨ inA A k) g ∨ W.heap.size ≤ g := fun g hg => .inl (Or.inr (hg))
  have hcl : ∀ k, k < W.heap.size → (fun k => k = b1 ∨ inA A k) k → (fun k => k = b1 ∨ w2.heap.size ≤ k) k ∧ ∃ o : Obj, W.heap[k]? = some o ∧ o.isCells = true := by
   rintro k _ (rfl | hs)
   ·exact ⟨Or.inl rfl, cl_b1⟩
   ·exact ⟨Or.inr (hg_A k hs), cl_A k hs⟩
  have hSS : ∀ k, k < w2.heap.size → (fun k => k = b1 ∨ inA A k) k → (fun k => k = b1) k := by
   rintro k hk (rfl | hs)
   ·exact rfl
   ·have := hg_A k hs; omega
  have hxl : pre.length ≤ 100000 := by have := hxs; omega
  refine wpIn_block ?_
  refine fxr_region (by kernel_rfl) (by rintro ⟨_, _, h⟩; exact h) ?_
  refine fx_val (v := .slice A pre.length cap) fr rfl rfl (by first | decide | simp) (x_load1 pl40 rfl (fr.ev rfl) (Bo.cell 0 rfl)) ?_
  clear fr a; intro a fr
  refine fx_val (v := .agg (lnE.arr x)) fr rfl rfl (by first | decide | simp) (x_loadE (E := lnE) ag39 rfl rfl (fr.ev rfl) (B9.rangeE lnE)) ?_
  clear fr a; intro a fr
  refine fx_build1 (E := lnE) (p := x) elLn (by decide) fr rfl rfl (by decide) rfl (fr.ev rfl) ?_
  clear fr a
  intro A13 w14 hN15 O16 hA17 a fr
  have ap_A13_b1 : Apart A13 b1 := new_apart hA17 Bo.lt
  have ap2_A_A13 : Apart2 A A13 := (new_apart2 hA17 fun _ hg => Oc.lt hg).symm
  have ap_A13_b6 : Apart A13 b6 := new_apart hA17 B9.lt
  have gA_A13 := gA_new hF hA17
  replace Bo := Bo.new hN15
  replace Oc := Oc.new hN15
  replace B9 := B9.new hN15
  replace hF := hF.trNew hN15
  refine fx_append (E := lnE) (l := pre) (l' := [x]) elLn fr rfl rfl (by decide) rfl (fr.ev rfl) (fr.ev rfl) (by first | rfl | (simp; done) | (simp; omega)) (by first | rfl | (simp; done) | (simp; omega)) Oc O16.view (by first | omega | (simp only [List.length_append, List.length_cons, List.length_nil]; omega)) (by unfold maxLen; first | omega | (simp; omega)) ?_
  clear fr a
  intro A18 cap19 w20 O21 hO22 mv23 a fr
  have ap_A18_b1 : Apart A18 b1 := moved_apart mv23 ap_A_b1 Bo.lt
  have ap2_A18_A13 : Apart2 A18 A13 := moved_apart2 mv23 ap2_A_A13 fun _ hg => O16.lt hg
  have gA_A18 := gA_moved hF mv23 gA_A
  replace Bo := Bo.only hO22 ap_A_b1
  replace O16 := O16.only hO22 (fun g h1 h2 => ap2_A_A13.symm g h1 h2)
  replace hF := hF.locA hO22 gA_A
  clear Oc
  refine fx_store1 sz40 rfl rfl rfl (fr.ev rfl) (fr.ev rfl) rfl Bo (show 0 < 1 by decide) (cs' := #[.slice A18 ((pre ++ ([x])).length) cap19]) rfl fun w24 hO25 hBq => ?_
  replace O16 := O16.only hO25 (Apart.ne1 ap_A13_b1)
  replace O21 := O21.only hO25 (Apart.ne1 ap_A18_b1)
  replace hF := hF.loc hO25 (.inl (Or.inl rfl))
  replace Bo := hBq
  clear hBq
  refine wpList_nil ?_
  refine fx_blk ?_
  exact ⟨⟨_, hF, hcl⟩, A18, cap19, Bo, O21, hC.trans hF hSS, (fun g hg => (gA_A18 g hg).elim (fun h => by rcases h with rfl | hs; all_goals first | exact hg_A g hs | exact absurd hg (by first | exact ap_A18_b1 | (intro h; exact h))) (fun h => Nat.le_trans hC.size h))⟩
 ·skip
  rintro D26 W1 hD ⟨A, cap, Bo, Oc, hC, hg_A⟩ hD_D26 a fr
  have g_D26 := Nat.le_trans hF.size hD
  have ap_A_b1 : Apart A b1 := fun h => by have := hg_A _ h; have := lt_b1; omega
  have ap2_Fp_A : ∀ k, Fp k → inA A k → False := symP (new_apart2P hg_A fun _ hg => H.lt hg)
  have ap_A_bn : Apart A bn := new_apart hg_A Bn.lt
  have gA_A := gA_new hF hg_A
  replace H := H.only hC (ne1P ap_Fp_b1)
  replace Bn := Bn.only hC (by first | exact ne_bn_b1 | exact ne_b1_bn.symm | (show ¬ bn = b1; omega))
  replace hF := hF.loc hC (.inr g_b1)
  have ne_bn_D26 := Bn.mark hD_D26
  have ne_b1_D26 := Bo.mark hD_D26
  have ap_A_D26 := Oc.mark hD_D26
  refine fx_blk ?_
  refine fx_next ?_
  refine wp_seq ?_
  refine wp_region_lit ?_
  refine fx_val (v := .slice A ((allL n L).length) cap) fr rfl rfl (by first | decide | simp) (x_load1 pl40 rfl (fr.ev rfl) (Bo.cell 0 rfl)) ?_
  clear fr a; intro a fr
  refine fx_val (v := .slice A ((allL n L).length) cap) fr rfl rfl (by first | decide | simp) (x_assign rfl (fr.ev rfl)) ?_
  clear fr a; intro a fr
  refine wpList_nil ?_
  refine fx_next ?_
  refine wp_ret ?_
  refine fx_retM1 fr g_D26 hD_D26 [.tmp 4] [.slice A ((allL n L).length) cap] rfl rfl ?_
  intro wE hT
  replace H := H.turn hT
  replace Bn := Bn.turn hT
  replace Bo := Bo.turn hT
  replace Oc := Oc.turn hT
  replace hF := hF.turn hT (Nat.le_refl _)
  refine ⟨⟨rfl, trivial⟩, ?_⟩
  exact ⟨_, rfl, A, cap, rfl, Oc, (fun g hg => (gA_A g hg).resolve_left (fun h => h)), hF⟩
 ·skip
  exact fun _ _ _ _ _ _ h _ _ _ => h.elim
theorem collect_c {w : World} {Fp : Nat → Prop} {b n : Nat} {ways : Int} {L : List Ln} (H : LinesAt w Fp b n ways L) {bn : Nat} (Bn : Blk w bn 79 #[.pointer (some ⟨b, 0, none⟩)]) (ap_Fp_bn : ¬ Fp bn) (hl : L.length ≤ 100000) : Calls Try.prog 68 #[.func (.func 82) #[] #[.pointer (some ⟨bn, 0, none⟩)]] w (Ret fun v w' => ∃ A' cap', v = .slice A' (allL n L).length cap' ∧ Own lnE w' A' cap' (allL n L) ∧ (∀ g, inA A' g → w.heap.size ≤ g) ∧ New w w') := by
 have hF := Only.refl (fun _ => False) w
 refine Zen 5 Try.func68 ?_
 refine Zsr ?_
 refine Za ?_
 refine Znn ?_
 refine Zsr ?_
 refine Zm ?_
 refine Zk (args := #[.slice none 0 0, .func (.func 82) #[] #[.pointer (some ⟨bn, 0, none⟩)]]) cf81 (appseq_c H Bn ap_Fp_bn (by omega)) ?_
 rintro v w5 ⟨A1, cap2, rfl, O3, hA4, hN6⟩
 have gA_A1 := gA_new hF hA4
 refine Za ?_
 refine Znn ?_
 refine Zrt ?_
 refine Zre rfl [_] ⟨rfl, trivial⟩ ?_
 replace hF := hF.trNew hN6
 exact ⟨_, rfl, A1, cap2, rfl, O3, (fun g hg => (gA_A1 g hg).resolve_left (fun h => h)), hF⟩
theorem clines_c {w : World} {b lb : Nat} {id : Int} {pa pg : Value} {FpL : Nat → Prop} {n : Nat} {ways : Int} {L : List Ln} (hB : Blk w b 83 #[.int .i64 id, .pointer (some ⟨lb, 0, none⟩), pa, pg]) (hL : LinesAt w FpL lb n ways L) (ap_FpL_b : ¬ FpL b) (hl : L.length ≤ 100000) : Calls Try.prog 30 #[.pointer (some ⟨b, 0, none⟩)] w (Ret fun v w' => ∃ A' cap', v = .slice A' (allL n L).length cap' ∧ Own lnE w' A' cap' (allL n L) ∧ (∀ g, inA A' g → w.heap.size ≤ g) ∧ New w w') := by
 obtain ⟨hn1, hn2, hw1, hw2⟩ := hL.bd
 have hF := Only.refl (fun _ => False) w
 refine Zen 11 Try.func30 ?_
 refine Zsr ?_
 refine Za ?_
 refine Znn ?_
 refine Zsq ?_
 refine Zsr ?_
 refine Zm ?_
 refine Zk cf43 (cnone_c hB) ?_
 rintro v w9 ⟨rfl, hw9⟩
 obtain rfl := hw9.symm
 refine Znn ?_
 refine Zcf ?_
 refine Zsk ?_
 refine Znx ?_
 refine Zsr ?_
 refine Zm ?_
 refine Zn ?_
 refine Zf fo83_1 ?_
 refine Zd pl79 (hB.cell 1 rfl) ?_
 refine Zk cf69 (all_c hL) ?_
 rintro v w11 ⟨bn3, b5, Fp6, rfl, Bn4, H7, hb8, hf9, hx10, hN12⟩
 have ap_Fp6_bn3 : ¬ Fp6 bn3 := hx10
 refine Zk (args := #[.func (.func 82) #[] #[.pointer (some ⟨bn3, 0, none⟩)]]) cf68 (collect_c H7 Bn4 ap_Fp6_bn3 (by omega)) ?_
 rintro v w17 ⟨A13, cap14, rfl, O15, hA16, hN18⟩
 replace hF := hF.trNew hN12
 have gA_A13 := gA_new hF hA16
 refine Za ?_
 refine Znn ?_
 refine Zrt ?_
 refine Zre rfl [_] ⟨rfl, trivial⟩ ?_
 replace hF := hF.trNew hN18
 exact ⟨_, rfl, A13, cap14, rfl, O15, (fun g hg => (gA_A13 g hg).resolve_left (fun h => h)), hF⟩
theorem cnew_yes (id : Int) (n : Nat) (ways : Int) (h1 : ¬ id < 0) (h2 : ¬ 4 ≤ id) (hr : rightB ((n : Nat) : Int) ways = true) (w : World) : Calls Try.prog 12 #[.int .i64 id, .int .i64 ((n : Nat) : Int), .int .i64 ways] w (Ret fun v w' => ∃ b Fp, v = .tuple #[.pointer (some ⟨b, 0, none⟩), .int .i64 0] ∧ CacheAt w' Fp b ⟨id, n, ways, [], none, none⟩ ∧ (∀ g, Fp g → w.heap.size ≤ g) ∧ New w w') := by
 have hF := Only.refl (fun _ => False) w
 refine Zen 30 Try.func12 ?_
 refine Zsr ?_
 refine Za ?_
 refine Za ?_
 refine Znn ?_
 refine Zsr ?_
 refine Zm ?_
 refine Zm ?_
 refine Zk cf42 (new_yes n ways _ hr) ?_
 rintro v w5 ⟨b1, Fp2, rfl, H3, hb4, hN6⟩
 have gA_Fp2 := gA_newP hF hb4
 refine Zm ?_
 refine Zt ?_
 refine Zt ?_
 refine Za ?_
 refine Za ?_
 refine Znn ?_
 refine Zsq ?_
 refine Zsr ?_
 refine Zm ?_
 refine Zv (.bool false) (fun _ fr => x_neq rfl (fr.ev rfl) rfl rfl) ?_
 refine Zm ?_
 refine Zm ?_
 refine Zv (.bool false) (fun _ fr => x_lss rfl (fr.ev rfl) rfl (decide_eq_false h1)) ?_
 refine Zpf ?_
 refine Zm ?_
 refine Zm ?_
 refine Zv (.bool false) (fun _ fr => x_geq rfl (fr.ev rfl) rfl (decide_eq_false h2)) ?_
 refine Zpf ?_
 refine Znn ?_
 refine Zcf ?_
 refine Zsk ?_
 refine Znx ?_
 refine Zsr ?_
 refine Zm ?_
 refine Zm ?_
 refine Zv (.agg (#[.int .i64 id, .pointer (some ⟨b1, 0, none⟩), .pointer none, .pointer none])) (fun a fr => x_build (cells := #[.int .i64 id, .pointer (some ⟨b1, 0, none⟩), .pointer none, .pointer none]) rfl (by simp only [List.map_toArray, List.map_cons, List.map_nil, show a.eval (.tmp 26) = .int .i64 id from fr.ev rfl, show a.eval (.tmp 27) = .pointer (some ⟨b1, 0, none⟩) from fr.ev rfl]; kernel_rfl)) ?_
 refine Znb (cs := #[.int .i64 id, .pointer (some ⟨b1, 0, none⟩), .pointer none, .pointer none]) fun b7 w8 hN9 B10 hb11 => ?_
 have ap_Fp2_b7 : ¬ Fp2 b7 := H3.apart hb11
 replace hF := hF.trNew hN6
 have g_b7 := Nat.le_trans hF.size hb11
 refine Za ?_
 refine Za ?_
 refine Znn ?_
 refine Zrt ?_
 refine Zre rfl [_, _] ⟨rfl, rfl, trivial⟩ ?_
 replace H3 := H3.new hN9
 replace hF := hF.trNew hN9
 exact ⟨_, rfl, b7, (fun k => k = b7 ∨ Fp2 k ∨ (fun _ => False) k ∨ (fun _ => False) k), rfl, ⟨_, Fp2, _, _, (fun _ => False), (fun _ => False), B10, H3, ⟨rfl, fun _ h => h⟩, ⟨rfl, fun _ h => h⟩, ⟨ap_Fp2_b7, fun h => h, fun h => h, fun _ _ h => h, fun _ _ h => h, fun _ h => h.elim, fun _ => Iff.rfl⟩⟩, (fun g hg => hg.elim (fun e => by rw [e]; exact g_b7) fun h => h.elim (fun h => (gA_Fp2 g h).resolve_left (fun h => h)) fun h => h.elim (fun h => h.elim) (fun h => h.elim)), hF⟩
end Go.Proofs.Ytflnlmibkbojcaa
namespace Go.Proofs.Ytflnlmibkbojcaa
open Go.RowKit
theorem ask_b1 {w : World} {Fp : Nat → Prop} {b : Nat} {id : Int} {n : Nat} {ways : Int} {L : List Ln} {al : Int} {aw : Bool} {giv : Option Ln} (H : CacheAt w Fp b ⟨id, n, ways, L, (some (al, aw)), giv⟩) (line : Int) (hln : 0 ≤ line ∧ line < 4294967296) (pick : Int) (wr : Bool) : Calls Try.prog 13 #[.pointer (some ⟨b, 0, none⟩), .int .u32 line, .bool wr, .int .i64 pick] w (Ret fun v w' => v = .tuple #[.slice none 0 0, .int .i64 230] ∧ New w w') := by
 obtain ⟨lb, FpL, pa, pg, FpA, FpG, hB, hL, hA, hG, hP⟩ := H
 dsimp only at hB hL hA hG
 have ap_FpL_b := hP.lb
 obtain ⟨hn1, hn2, hw1, hw2⟩ := hL.bd
 have gA_FpA := fun g (hg : FpA g) => (Or.inl trivial : True ∨ w.heap.size ≤ g)
 have hF := Only.refl (fun _ => False) w
 refine Zen 91 Try.func13 ?_
 refine Zsr ?_
 refine Za ?_
 refine Za ?_
 refine Znn ?_
 refine Zsq ?_
 refine Zsr ?_
 refine Zm ?_
 refine Zk cf43 (cnone_c hB) ?_
 rintro v w9 ⟨rfl, hw9⟩
 obtain rfl := hw9.symm
 refine Znn ?_
 refine Zcf ?_
 refine Zsk ?_
 refine Znx ?_
 refine Zsr ?_
 refine Zm ?_
 refine Zm ?_
 refine Zk (args := #[.pointer (some ⟨b, 0, none⟩), .int .u32 line]) cf34 (state_c line (by omega) hB hL ap_FpL_b) ?_
 rintro v w3 ⟨rfl, hN4⟩
 refine Za ?_
 refine Znn ?_
 refine Zsq ?_
 refine Zbl ?_
 refine Zsq ?_
 replace hA := hA.new hN4
 obtain ⟨ba, rfl, hAB, hAF, hal⟩ := hA
 have gi_ba := gA_FpA ba ((hAF ba).2 rfl)
 refine Zrg ?_
 refine Zm ?_
 refine Zn ?_
 refine Zf fo83_2 ?_
 replace hB := hB.new hN4
 refine Zd pl80 (hB.cell 2 rfl) ?_
 refine Zv (.bool true) (fun _ fr => x_pneq Try.underlying80 rfl (fr.ev rfl) rfl rfl) ?_
 refine Zm ?_
 refine Zs ?_
 refine Zs ?_
 refine Zs ?_
 refine Zs ?_
 refine Zs ?_
 refine Zs ?_
 refine Zs ?_
 refine Zs ?_
 refine Zs ?_
 refine Zs ?_
 refine Zs ?_
 refine Zs ?_
 refine Zs ?_
 refine Zs ?_
 refine Zs ?_
 refine Zs ?_
 refine Zpt ?_
 refine Za ?_
 refine Znn ?_
 refine Zct ?_
 refine Zsr ?_
 refine Za ?_
 refine Za ?_
 refine Znn ?_
 refine Zrt ?_
 refine Zr2 ?_
 refine Zr1 ?_
 refine Zre rfl [_, _] ⟨rfl, rfl, trivial⟩ ?_
 replace hF := hF.trNew hN4
 exact ⟨_, rfl, rfl, hF⟩
theorem ask_b2 {w : World} {Fp : Nat → Prop} {b : Nat} {id : Int} {n : Nat} {ways : Int} {L : List Ln} {gx : Ln} (H : CacheAt w Fp b ⟨id, n, ways, L, none, (some gx)⟩) (line : Int) (hln : 0 ≤ line ∧ line < 4294967296) (pick : Int) (hg : gx.num = line) (wr : Bool) : Calls Try.prog 13 #[.pointer (some ⟨b, 0, none⟩), .int .u32 line, .bool wr, .int .i64 pick] w (Ret fun v w' => v = .tuple #[.slice none 0 0, .int .i64 230] ∧ New w w') := by
 obtain ⟨lb, FpL, pa, pg, FpA, FpG, hB, hL, hA, hG, hP⟩ := H
 dsimp only at hB hL hA hG
 have ap_FpL_b := hP.lb
 obtain ⟨hn1, hn2, hw1, hw2⟩ := hL.bd
 have gA_FpG := fun g (hg : FpG g) => (Or.inl trivial : True ∨ w.heap.size ≤ g)
 have hF := Only.refl (fun _ => False) w
 refine Zen 91 Try.func13 ?_
 refine Zsr ?_
 refine Za ?_
 refine Za ?_
 refine Znn ?_
 refine Zsq ?_
 refine Zsr ?_
 refine Zm ?_
 refine Zk cf43 (cnone_c hB) ?_
 rintro v w9 ⟨rfl, hw9⟩
 obtain rfl := hw9.symm
 refine Znn ?_
 refine Zcf ?_
 refine Zsk ?_
 refine Znx ?_
 refine Zsr ?_
 refine Zm ?_
 refine Zm ?_
 refine Zk (args := #[.pointer (some ⟨b, 0, none⟩), .int .u32 line]) cf34 (state_c line (by omega) hB hL ap_FpL_b) ?_
 rintro v w3 ⟨rfl, hN4⟩
 refine Za ?_
 refine Znn ?_
 refine Zsq ?_
 refine Zbl ?_
 refine Zsq ?_
 replace hA := hA.new hN4
 obtain ⟨rfl, hA0⟩ := hA
 replace hG := hG.new hN4
 obtain ⟨bg, rfl, hGB, hGF⟩ := hG
 have gi_bg := gA_FpG bg ((hGF bg).2 rfl)
 refine Zrg ?_
 refine Zm ?_
 refine Zn ?_
 refine Zf fo83_2 ?_
 replace hB := hB.new hN4
 refine Zd pl80 (hB.cell 2 rfl) ?_
 refine Zv (.bool false) (fun _ fr => x_pneq Try.underlying80 rfl (fr.ev rfl) rfl rfl) ?_
 refine Zm ?_
 refine Zm ?_
 refine Zn ?_
 refine Zf fo83_3 ?_
 refine Zd pl81 (hB.cell 3 rfl) ?_
 refine Zv (.bool true) (fun _ fr => x_pneq Try.underlying81 rfl (fr.ev rfl) rfl rfl) ?_
 refine Zm ?_
 refine Zm ?_
 refine Zn ?_
 refine Zf fo83_3 ?_
 refine Zd pl81 (hB.cell 3 rfl) ?_
 refine Zn ?_
 refine Zf fo39_0 ?_
 refine Zd (v := .int .u32 gx.num) pl32 (hGB.cell 0 rfl) ?_
 refine Zm ?_
 refine Zv (.bool true) (fun _ fr => x_eql rfl (fr.ev rfl) (fr.ev rfl) (decide_eq_true hg)) ?_
 refine Zpt ?_
 refine Zpf ?_
 refine Za ?_
 refine Znn ?_
 refine Zct ?_
 refine Zsr ?_
 refine Za ?_
 refine Za ?_
 refine Znn ?_
 refine Zrt ?_
 refine Zr2 ?_
 refine Zr1 ?_
 refine Zre rfl [_, _] ⟨rfl, rfl, trivial⟩ ?_
 replace hF := hF.trNew hN4
 exact ⟨_, rfl, rfl, hF⟩
theorem ask_trn {w : World} {Fp : Nat → Prop} {b : Nat} {id : Int} {n : Nat} {ways : Int} {L : List Ln} (H : CacheAt w Fp b ⟨id, n, ways, L, none, none⟩) (line : Int) (hln : 0 ≤ line ∧ line < 4294967296) (pick : Int) (hs : stateOf L line ≠ 0)  : Calls Try.prog 13 #[.pointer (some ⟨b, 0, none⟩), .int .u32 line, .bool false, .int .i64 pick] w (Ret fun v w' => v = .tuple #[.slice none 0 0, .int .i64 231] ∧ New w w') := by
 obtain ⟨lb, FpL, pa, pg, FpA, FpG, hB, hL, hA, hG, hP⟩ := H
 dsimp only at hB hL hA hG
 have ap_FpL_b := hP.lb
 obtain ⟨hn1, hn2, hw1, hw2⟩ := hL.bd
 have hF := Only.refl (fun _ => False) w
 refine Zen 91 Try.func13 ?_
 refine Zsr ?_
 refine Za ?_
 refine Za ?_
 refine Znn ?_
 refine Zsq ?_
 refine Zsr ?_
 refine Zm ?_
 refine Zk cf43 (cnone_c hB) ?_
 rintro v w9 ⟨rfl, hw9⟩
 obtain rfl := hw9.symm
 refine Znn ?_
 refine Zcf ?_
 refine Zsk ?_
 refine Znx ?_
 refine Zsr ?_
 refine Zm ?_
 refine Zm ?_
 refine Zk (args := #[.pointer (some ⟨b, 0, none⟩), .int .u32 line]) cf34 (state_c line (by omega) hB hL ap_FpL_b) ?_
 rintro v w3 ⟨rfl, hN4⟩
 refine Za ?_
 refine Znn ?_
 refine Zsq ?_
 refine Zbl ?_
 refine Zsq ?_
 replace hA := hA.new hN4
 obtain ⟨rfl, hA0⟩ := hA
 replace hG := hG.new hN4
 obtain ⟨rfl, hG0⟩ := hG
 refine Zrg ?_
 refine Zm ?_
 refine Zn ?_
 refine Zf fo83_2 ?_
 replace hB := hB.new hN4
 refine Zd pl80 (hB.cell 2 rfl) ?_
 refine Zv (.bool false) (fun _ fr => x_pneq Try.underlying80 rfl (fr.ev rfl) rfl rfl) ?_
 refine Zm ?_
 refine Zm ?_
 refine Zn ?_
 refine Zf fo83_3 ?_
 refine Zd pl81 (hB.cell 3 rfl) ?_
 refine Zv (.bool false) (fun _ fr => x_pneq Try.underlying81 rfl (fr.ev rfl) rfl rfl) ?_
 refine Zm ?_
 refine Zs ?_
 refine Zs ?_
 refine Zs ?_
 refine Zs ?_
 refine Zs ?_
 refine Zs ?_
 refine Zs ?_
 refine Zs ?_
 refine Zs ?_
 refine Zpf ?_
 refine Zpf ?_
 refine Za ?_
 refine Znn ?_
 refine Zcf ?_
 refine Zsr ?_
 refine Zm ?_
 refine Zv (.bool true) (fun _ fr => x_neq rfl (fr.ev rfl) rfl (decide_eq_true hs)) ?_
 refine Zm ?_
 refine Zm ?_
 refine Zv (.bool true) (fun _ fr => x_not rfl (fr.ev rfl) rfl) ?_
 refine Zm ?_
 refine Zs ?_
 refine Zs ?_
 refine Zpt ?_
 refine Zpt ?_
 refine Za ?_
 refine Znn ?_
 refine Zct ?_
 refine Zsr ?_
 refine Za ?_
 refine Za ?_
 refine Znn ?_
 refine Zrt ?_
 refine Zr2 ?_
 refine Zr1 ?_
 refine Zre rfl [_, _] ⟨rfl, rfl, trivial⟩ ?_
 replace hF := hF.trNew hN4
 exact ⟨_, rfl, rfl, hF⟩
theorem ask_nr0n {w : World} {Fp : Nat → Prop} {b : Nat} {id : Int} {n : Nat} {ways : Int} {L : List Ln} (H : CacheAt w Fp b ⟨id, n, ways, L, none, none⟩) (line : Int) (hln : 0 ≤ line ∧ line < 4294967296) (pick : Int) (hs : ¬ stateOf L line ≠ 0) (hv : vicL n ways L line pick = none) : Calls Try.prog 13 #[.pointer (some ⟨b, 0, none⟩), .int .u32 line, .bool false, .int .i64 pick] w (Ret fun v w' => ∃ A' cap', v = .tuple #[.slice A' ([askM id line false hln]).length cap', .int .i64 0] ∧ Own msgE w' A' cap' ([askM id line false hln]) ∧ (∀ g, inA A' g → w.heap.size ≤ g) ∧ ∃ Fp', CacheAt w' Fp' b ⟨id, n, ways, L, (some (line, false)), none⟩ ∧ Only Fp w w' ∧ ∀ g, Fp' g → Fp g ∨ w.heap.size ≤ g) := by
 obtain ⟨lb, FpL, pa, pg, FpA, FpG, hB, hL, hA, hG, hP⟩ := H
 dsimp only at hB hL hA hG
 have ap_FpL_b := hP.lb
 obtain ⟨hn1, hn2, hw1, hw2⟩ := hL.bd
 have gA_FpL : ∀ g, FpL g → Fp g ∨ w.heap.size ≤ g := fun g hg => .inl ((hP.foot g).2 (.inr (.inl hg)))
 have hF := Only.refl (Fp) w
 refine Zen 91 Try.func13 ?_
 refine Zsr ?_
 refine Za ?_
 refine Za ?_
 refine Znn ?_
 refine Zsq ?_
 refine Zsr ?_
 refine Zm ?_
 refine Zk cf43 (cnone_c hB) ?_
 rintro v w9 ⟨rfl, hw9⟩
 obtain rfl := hw9.symm
 refine Znn ?_
 refine Zcf ?_
 refine Zsk ?_
 refine Znx ?_
 refine Zsr ?_
 refine Zm ?_
 refine Zm ?_
 refine Zk (args := #[.pointer (some ⟨b, 0, none⟩), .int .u32 line]) cf34 (state_c line (by omega) hB hL ap_FpL_b) ?_
 rintro v w3 ⟨rfl, hN4⟩
 refine Za ?_
 refine Znn ?_
 refine Zsq ?_
 refine Zbl ?_
 refine Zsq ?_
 replace hA := hA.new hN4
 obtain ⟨rfl, hA0⟩ := hA
 replace hG := hG.new hN4
 obtain ⟨rfl, hG0⟩ := hG
 refine Zrg ?_
 refine Zm ?_
 refine Zn ?_
 refine Zf fo83_2 ?_
 replace hB := hB.new hN4
 refine Zd pl80 (hB.cell 2 rfl) ?_
 refine Zv (.bool false) (fun _ fr => x_pneq Try.underlying80 rfl (fr.ev rfl) rfl rfl) ?_
 refine Zm ?_
 refine Zm ?_
 refine Zn ?_
 refine Zf fo83_3 ?_
 refine Zd pl81 (hB.cell 3 rfl) ?_
 refine Zv (.bool false) (fun _ fr => x_pneq Try.underlying81 rfl (fr.ev rfl) rfl rfl) ?_
 refine Zm ?_
 refine Zs ?_
 refine Zs ?_
 refine Zs ?_
 refine Zs ?_
 refine Zs ?_
 refine Zs ?_
 refine Zs ?_
 refine Zs ?_
 refine Zs ?_
 refine Zpf ?_
 refine Zpf ?_
 refine Za ?_
 refine Znn ?_
 refine Zcf ?_
 refine Zsr ?_
 refine Zm ?_
 refine Zv (.bool false) (fun _ fr => x_neq rfl (fr.ev rfl) rfl (decide_eq_false hs)) ?_
 refine Zm ?_
 refine Zs ?_
 refine Zs ?_
 refine Zs ?_
 refine Zs ?_
 refine Zs ?_
 refine Zs ?_
 refine Zpf ?_
 refine Za ?_
 refine Znn ?_
 refine Zcf ?_
 refine Zsk ?_
 refine Zb ?_
 refine Znx ?_
 refine Zsq ?_
 refine Zsr ?_
 refine Zm ?_
 refine Zn ?_
 refine Zf fo83_1 ?_
 refine Zd pl79 (hB.cell 1 rfl) ?_
 refine Zm ?_
 refine Zm ?_
 replace hL := hL.new hN4
 refine Zk (args := #[.pointer (some ⟨lb, 0, none⟩), .int .u32 line, .int .i64 pick]) cf45 (victim_c line (by omega) pick hL) ?_
 rintro v w5 ⟨rfl, hN6⟩
 intro a fr
 rw [hv] at fr
 simp only [Option.getD_none, Option.isSome_none] at fr
 revert a
 refine Zm ?_
 refine Zt ?_
 refine Zt ?_
 refine Zna (z := zv1) (cs := lnE.arr ln0) (by kernel_rfl) fun b7 w8 hN9 B10 hb11 => ?_
 replace hB := hB.new hN6
 have ne_b_b7 : NE b b7 := NE.mk (Nat.lt_of_lt_of_le hB.lt hb11)
 replace hL := hL.new hN6
 have ap_FpL_b7 : ¬ FpL b7 := hL.apart hb11
 replace hF := (hF.trNew hN4).trNew hN6
 have g_b7 := Nat.le_trans hF.size hb11
 refine ZsS sz39 (lnE.all _) B10 (lnE.size _) (lnE.size _) fun w12 hO13 hBq => ?_
 clear hBq
 refine Za ?_
 refine Znn ?_
 refine Zsr ?_
 refine Zm ?_
 refine Znn ?_
 refine Zcf ?_
 refine Zsk ?_
 refine Znx ?_
 refine Zsr ?_
 refine Zm ?_
 refine Zm ?_
 refine Zm ?_
 refine Zv (.agg (#[.int .u32 line, .bool false])) (fun a fr => x_build (cells := #[.int .u32 line, .bool false]) rfl (by simp only [List.map_toArray, List.map_cons, List.map_nil, show a.eval (.tmp 77) = .int .u32 line from fr.ev rfl, show a.eval (.tmp 78) = .bool false from fr.ev rfl]; kernel_rfl)) ?_
 refine Znb (cs := #[.int .u32 line, .bool false]) fun b14 w15 hN16 B17 hb18 => ?_
 replace hB := (hB.new hN9).only hO13 ne_b_b7
 have ne_b_b14 : NE b b14 := NE.mk (Nat.lt_of_lt_of_le hB.lt hb18)
 replace hL := (hL.new hN9).only hO13 (ne1P ap_FpL_b7)
 have ap_FpL_b14 : ¬ FpL b14 := hL.apart hb18
 replace hF := (hF.trNew hN9).loc hO13 (.inr g_b7)
 have g_b14 := Nat.le_trans hF.size hb18
 refine Zn ?_
 refine Zf fo83_2 ?_
 replace hB := hB.new hN16
 refine Zs1 (cs' := #[.int .i64 id, .pointer (some ⟨lb, 0, none⟩), .pointer (some ⟨b14, 0, none⟩), .pointer none]) sz80 hB (show 2 < 4 by decide) rfl fun w19 hO20 hBq => ?_
 replace hB := hBq
 clear hBq
 refine Znn ?_
 refine Zsr ?_
 refine Za ?_
 refine Znn ?_
 refine Zsq ?_
 refine Zsr ?_
 refine Zm ?_
 refine Znn ?_
 refine Zcf ?_
 refine Zsk ?_
 refine Znx ?_
 refine Zsr ?_
 refine Zm ?_
 refine Zm ?_
 refine Zm ?_
 refine Zm ?_
 refine Zk (args := #[.pointer (some ⟨b, 0, none⟩), .int .i64 1, .int .u32 line]) cf47 (msg_c hB 1 line (by omega)) ?_
 rintro v w21 ⟨rfl, hN22⟩
 intro a fr
 refine fx_build1 (E := msgE) (p := (mkM 1 id 4 line)) elMsg (by decide) fr rfl rfl (by decide) rfl (fr.ev rfl) ?_
 clear fr a
 intro A23 w24 hN25 O26 hA27
 intro a fr
 refine fx_append (E := msgE) (l := []) (l' := [(mkM 1 id 4 line)]) elMsg fr rfl rfl (by decide) rfl (fr.ev rfl) (fr.ev rfl) (by first | rfl | (simp; done) | (simp; omega)) (by first | rfl | (simp; done) | (simp; omega)) Own.nil O26.view (by first | omega | (simp only [List.length_append, List.length_cons, List.length_nil, List.nil_append]; omega)) (by first | (unfold maxLen; done) | (unfold maxLen; first | omega | (simp; done) | (simp; omega))) ?_
 clear fr a
 intro A28 cap29 w30 O31 hO32 mv33
 replace hF := (((hF.trNew hN16).loc hO20 (.inl ((hP.foot b).2 (.inl rfl)))).trNew hN22).trNew hN25
 have gN_A28 := fun g (hg : inA A28 g) => (mv33 g hg).elim (fun h => absurd h (apart_none g)) (fun h => Nat.le_trans hF.size h)
 replace hO32 := only_none hO32
 refine Za ?_
 refine Za ?_
 refine Znn ?_
 refine Zrt ?_
 refine Zre rfl [_, _] ⟨rfl, rfl, trivial⟩ ?_
 have gi_b14 : Fp b14 ∨ w.heap.size ≤ b14 := .inr g_b14
 replace hL := ((((hL.new hN16).only hO20 (ne1P ap_FpL_b)).new hN22).new hN25).new hO32
 replace B17 := (((B17.only hO20 ne_b_b14.symm).new hN22).new hN25).new hO32
 replace hB := ((hB.new hN22).new hN25).new hO32
 replace hF := hF.trNew hO32
 exact ⟨_, rfl, A28, cap29, rfl, O31, gN_A28, (fun k => k = b ∨ FpL k ∨ (fun k => k = b14) k ∨ (fun _ => False) k), ⟨lb, FpL, _, _, (fun k => k = b14), (fun _ => False), hB, hL, ⟨b14, rfl, B17, fun _ => Iff.rfl, hln⟩, ⟨rfl, fun _ h => h⟩, ⟨ap_FpL_b, (fun e => (show ¬ b = b14 from ne_b_b14) e), (fun h => h), (fun k hk e => ap_FpL_b14 (e ▸ hk)), (fun _ _ h => h), (fun _ _ h => h), fun _ => Iff.rfl⟩⟩, hF, (fun g hg => hg.elim (fun e => by rw [e]; exact .inl ((hP.foot b).2 (.inl rfl))) fun h => h.elim (gA_FpL g) fun h => h.elim (fun e => by rw [e]; exact gi_b14) (fun h => h.elim))⟩
theorem ask_sr0n {w : World} {Fp : Nat → Prop} {b : Nat} {id : Int} {n : Nat} {ways : Int} {L : List Ln} (H : CacheAt w Fp b ⟨id, n, ways, L, none, none⟩) (line : Int) (hln : 0 ≤ line ∧ line < 4294967296) (pick : Int) (hs : ¬ stateOf L line ≠ 0) (vx : Ln) (hv : vicL n ways L line pick = some vx) (hx : vx.state = 1) : Calls Try.prog 13 #[.pointer (some ⟨b, 0, none⟩), .int .u32 line, .bool false, .int .i64 pick] w (Ret fun v w' => ∃ A' cap', v = .tuple #[.slice A' ([askM id line false hln]).length cap', .int .i64 0] ∧ Own msgE w' A' cap' ([askM id line false hln]) ∧ (∀ g, inA A' g → w.heap.size ≤ g) ∧ ∃ Fp', CacheAt w' Fp' b ⟨id, n, ways, dropL L vx.num, (some (line, false)), none⟩ ∧ Only Fp w w' ∧ ∀ g, Fp' g → Fp g ∨ w.heap.size ≤ g) := by
 obtain ⟨lb, FpL, pa, pg, FpA, FpG, hB, hL, hA, hG, hP⟩ := H
 dsimp only at hB hL hA hG
 have ap_FpL_b := hP.lb
 obtain ⟨hn1, hn2, hw1, hw2⟩ := hL.bd
 have gA_FpL : ∀ g, FpL g → Fp g ∨ w.heap.size ≤ g := fun g hg => .inl ((hP.foot g).2 (.inr (.inl hg)))
 have hF := Only.refl (Fp) w
 refine Zen 91 Try.func13 ?_
 refine Zsr ?_
 refine Za ?_
 refine Za ?_
 refine Znn ?_
 refine Zsq ?_
 refine Zsr ?_
 refine Zm ?_
 refine Zk cf43 (cnone_c hB) ?_
 rintro v w9 ⟨rfl, hw9⟩
 obtain rfl := hw9.symm
 refine Znn ?_
 refine Zcf ?_
 refine Zsk ?_
 refine Znx ?_
 refine Zsr ?_
 refine Zm ?_
 refine Zm ?_
 refine Zk (args := #[.pointer (some ⟨b, 0, none⟩), .int .u32 line]) cf34 (state_c line (by omega) hB hL ap_FpL_b) ?_
 rintro v w3 ⟨rfl, hN4⟩
 refine Za ?_
 refine Znn ?_
 refine Zsq ?_
 refine Zbl ?_
 refine Zsq ?_
 replace hA := hA.new hN4
 obtain ⟨rfl, hA0⟩ := hA
 replace hG := hG.new hN4
 obtain ⟨rfl, hG0⟩ := hG
 refine Zrg ?_
 refine Zm ?_
 refine Zn ?_
 refine Zf fo83_2 ?_
 replace hB := hB.new hN4
 refine Zd pl80 (hB.cell 2 rfl) ?_
 refine Zv (.bool false) (fun _ fr => x_pneq Try.underlying80 rfl (fr.ev rfl) rfl rfl) ?_
 refine Zm ?_
 refine Zm ?_
 refine Zn ?_
 refine Zf fo83_3 ?_
 refine Zd pl81 (hB.cell 3 rfl) ?_
 refine Zv (.bool false) (fun _ fr => x_pneq Try.underlying81 rfl (fr.ev rfl) rfl rfl) ?_
 refine Zm ?_
 refine Zs ?_
 refine Zs ?_
 refine Zs ?_
 refine Zs ?_
 refine Zs ?_
 refine Zs ?_
 refine Zs ?_
 refine Zs ?_
 refine Zs ?_
 refine Zpf ?_
 refine Zpf ?_
 refine Za ?_
 refine Znn ?_
 refine Zcf ?_
 refine Zsr ?_
 refine Zm ?_
 refine Zv (.bool false) (fun _ fr => x_neq rfl (fr.ev rfl) rfl (decide_eq_false hs)) ?_
 refine Zm ?_
 refine Zs ?_
 refine Zs ?_
 refine Zs ?_
 refine Zs ?_
 refine Zs ?_
 refine Zs ?_
 refine Zpf ?_
 refine Za ?_
 refine Znn ?_
 refine Zcf ?_
 refine Zsk ?_
 refine Zb ?_
 refine Znx ?_
 refine Zsq ?_
 refine Zsr ?_
 refine Zm ?_
 refine Zn ?_
 refine Zf fo83_1 ?_
 refine Zd pl79 (hB.cell 1 rfl) ?_
 refine Zm ?_
 refine Zm ?_
 replace hL := hL.new hN4
 refine Zk (args := #[.pointer (some ⟨lb, 0, none⟩), .int .u32 line, .int .i64 pick]) cf45 (victim_c line (by omega) pick hL) ?_
 rintro v w5 ⟨rfl, hN6⟩
 intro a fr
 rw [hv] at fr
 simp only [Option.getD_some, Option.isSome_some] at fr
 revert a
 refine Zm ?_
 refine Zt ?_
 refine Zt ?_
 refine Zna (z := zv1) (cs := lnE.arr ln0) (by kernel_rfl) fun b7 w8 hN9 B10 hb11 => ?_
 replace hB := hB.new hN6
 have ne_b_b7 : NE b b7 := NE.mk (Nat.lt_of_lt_of_le hB.lt hb11)
 replace hL := hL.new hN6
 have ap_FpL_b7 : ¬ FpL b7 := hL.apart hb11
 replace hF := (hF.trNew hN4).trNew hN6
 have g_b7 := Nat.le_trans hF.size hb11
 refine ZsS sz39 (lnE.all _) B10 (lnE.size _) (lnE.size _) fun w12 hO13 hBq => ?_
 replace B10 := hBq
 clear hBq
 refine Za ?_
 refine Znn ?_
 refine Zsr ?_
 refine Zm ?_
 refine Znn ?_
 refine Zct ?_
 refine Zsr ?_
 refine Zm ?_
 refine ZE lnE ag39 (B10.rangeE lnE) ?_
 replace hB := (hB.new hN9).only hO13 ne_b_b7
 replace hL := (hL.new hN9).only hO13 (ne1P ap_FpL_b7)
 refine Zk cf46 (out_s hB hL ap_FpL_b vx hx) ?_
 rintro v w18 ⟨rfl, hB14, Fp15, H16, mv17, hN19⟩
 have ap_Fp15_b : ¬ Fp15 b := moved_apartP mv17 ap_FpL_b hB.lt
 replace hF := (hF.trNew hN9).loc hO13 (.inr g_b7)
 have gA_Fp15 := gA_movedP hF mv17 gA_FpL
 clear hL
 replace hB := hB14
 clear hB14
 refine Zm ?_
 refine Zt ?_
 refine Zt ?_
 refine Za ?_
 refine Za ?_
 refine Znn ?_
 refine Zsq ?_
 refine Zsr ?_
 refine Zm ?_
 refine Zv (.bool false) (fun _ fr => x_not rfl (fr.ev rfl) rfl) ?_
 refine Znn ?_
 refine Zcf ?_
 refine Zsk ?_
 refine Znx ?_
 refine Zrg ?_
 refine Zm ?_
 refine Za ?_
 refine Znn ?_
 refine Zsr ?_
 refine Zm ?_
 refine Zm ?_
 refine Zm ?_
 refine Zv (.agg (#[.int .u32 line, .bool false])) (fun a fr => x_build (cells := #[.int .u32 line, .bool false]) rfl (by simp only [List.map_toArray, List.map_cons, List.map_nil, show a.eval (.tmp 77) = .int .u32 line from fr.ev rfl, show a.eval (.tmp 78) = .bool false from fr.ev rfl]; kernel_rfl)) ?_
 refine Znb (cs := #[.int .u32 line, .bool false]) fun b20 w21 hN22 B23 hb24 => ?_
 have ne_b_b20 : NE b b20 := NE.mk (Nat.lt_of_lt_of_le hB.lt hb24)
 have ap_Fp15_b20 : ¬ Fp15 b20 := H16.apart hb24
 replace hF := hF.locS hN19 (fun i => (fun h => h.elim (fun e => by rw [e]; exact (.inl ((hP.foot b).2 (.inl rfl)))) (fun h => gA_FpL i h)))
 have g_b20 := Nat.le_trans hF.size hb24
 refine Zn ?_
 refine Zf fo83_2 ?_
 replace hB := hB.new hN22
 refine Zs1 (cs' := #[.int .i64 id, .pointer (some ⟨lb, 0, none⟩), .pointer (some ⟨b20, 0, none⟩), .pointer none]) sz80 hB (show 2 < 4 by decide) rfl fun w25 hO26 hBq => ?_
 replace hB := hBq
 clear hBq
 refine Znn ?_
 refine Zsr ?_
 refine Za ?_
 refine Znn ?_
 refine Zsq ?_
 refine Zsr ?_
 refine Zm ?_
 refine Znn ?_
 refine Zcf ?_
 refine Zsk ?_
 refine Znx ?_
 refine Zsr ?_
 refine Zm ?_
 refine Zm ?_
 refine Zm ?_
 refine Zm ?_
 refine Zk (args := #[.pointer (some ⟨b, 0, none⟩), .int .i64 1, .int .u32 line]) cf47 (msg_c hB 1 line (by omega)) ?_
 rintro v w27 ⟨rfl, hN28⟩
 intro a fr
 refine fx_build1 (E := msgE) (p := (mkM 1 id 4 line)) elMsg (by decide) fr rfl rfl (by decide) rfl (fr.ev rfl) ?_
 clear fr a
 intro A29 w30 hN31 O32 hA33
 intro a fr
 refine fx_append (E := msgE) (l := []) (l' := [(mkM 1 id 4 line)]) elMsg fr rfl rfl (by decide) rfl (fr.ev rfl) (fr.ev rfl) (by first | rfl | (simp; done) | (simp; omega)) (by first | rfl | (simp; done) | (simp; omega)) Own.nil O32.view (by first | omega | (simp only [List.length_append, List.length_cons, List.length_nil, List.nil_append]; omega)) (by first | (unfold maxLen; done) | (unfold maxLen; first | omega | (simp; done) | (simp; omega))) ?_
 clear fr a
 intro A34 cap35 w36 O37 hO38 mv39
 replace hF := (((hF.trNew hN22).loc hO26 (.inl ((hP.foot b).2 (.inl rfl)))).trNew hN28).trNew hN31
 have gN_A34 := fun g (hg : inA A34 g) => (mv39 g hg).elim (fun h => absurd h (apart_none g)) (fun h => Nat.le_trans hF.size h)
 replace hO38 := only_none hO38
 refine Za ?_
 refine Za ?_
 refine Znn ?_
 refine Zrt ?_
 refine Zre rfl [_, _] ⟨rfl, rfl, trivial⟩ ?_
 have gi_b20 : Fp b20 ∨ w.heap.size ≤ b20 := .inr g_b20
 replace H16 := ((((H16.new hN22).only hO26 (ne1P ap_Fp15_b)).new hN28).new hN31).new hO38
 replace B23 := (((B23.only hO26 ne_b_b20.symm).new hN28).new hN31).new hO38
 replace hB := ((hB.new hN28).new hN31).new hO38
 replace hF := hF.trNew hO38
 exact ⟨_, rfl, A34, cap35, rfl, O37, gN_A34, (fun k => k = b ∨ Fp15 k ∨ (fun k => k = b20) k ∨ (fun _ => False) k), ⟨lb, Fp15, _, _, (fun k => k = b20), (fun _ => False), hB, H16, ⟨b20, rfl, B23, fun _ => Iff.rfl, hln⟩, ⟨rfl, fun _ h => h⟩, ⟨ap_Fp15_b, (fun e => (show ¬ b = b20 from ne_b_b20) e), (fun h => h), (fun k hk e => ap_Fp15_b20 (e ▸ hk)), (fun _ _ h => h), (fun _ _ h => h), fun _ => Iff.rfl⟩⟩, hF, (fun g hg => hg.elim (fun e => by rw [e]; exact .inl ((hP.foot b).2 (.inl rfl))) fun h => h.elim (gA_Fp15 g) fun h => h.elim (fun e => by rw [e]; exact gi_b20) (fun h => h.elim))⟩
theorem ask_pr0n {w : World} {Fp : Nat → Prop} {b : Nat} {id : Int} {n : Nat} {ways : Int} {L : List Ln} (H : CacheAt w Fp b ⟨id, n, ways, L, none, none⟩) (line : Int) (hln : 0 ≤ line ∧ line < 4294967296) (pick : Int) (hs : ¬ stateOf L line ≠ 0) (vx : Ln) (hv : vicL n ways L line pick = some vx) (hx : ¬ vx.state = 1) : Calls Try.prog 13 #[.pointer (some ⟨b, 0, none⟩), .int .u32 line, .bool false, .int .i64 pick] w (Ret fun v w' => ∃ A' cap', v = .tuple #[.slice A' ([putM id vx] ++ [askM id line false hln]).length cap', .int .i64 0] ∧ Own msgE w' A' cap' ([putM id vx] ++ [askM id line false hln]) ∧ (∀ g, inA A' g → w.heap.size ≤ g) ∧ ∃ Fp', CacheAt w' Fp' b ⟨id, n, ways, dropL L vx.num, (some (line, false)), (some vx)⟩ ∧ Only Fp w w' ∧ ∀ g, Fp' g → Fp g ∨ w.heap.size ≤ g) := by
 obtain ⟨lb, FpL, pa, pg, FpA, FpG, hB, hL, hA, hG, hP⟩ := H
 dsimp only at hB hL hA hG
 have ap_FpL_b := hP.lb
 obtain ⟨hn1, hn2, hw1, hw2⟩ := hL.bd
 have gA_FpL : ∀ g, FpL g → Fp g ∨ w.heap.size ≤ g := fun g hg => .inl ((hP.foot g).2 (.inr (.inl hg)))
 have hF := Only.refl (Fp) w
 refine Zen 91 Try.func13 ?_
 refine Zsr ?_
 refine Za ?_
 refine Za ?_
 refine Znn ?_
 refine Zsq ?_
 refine Zsr ?_
 refine Zm ?_
 refine Zk cf43 (cnone_c hB) ?_
 rintro v w9 ⟨rfl, hw9⟩
 obtain rfl := hw9.symm
 refine Znn ?_
 refine Zcf ?_
 refine Zsk ?_
 refine Znx ?_
 refine Zsr ?_
 refine Zm ?_
 refine Zm ?_
 refine Zk (args := #[.pointer (some ⟨b, 0, none⟩), .int .u32 line]) cf34 (state_c line (by omega) hB hL ap_FpL_b) ?_
 rintro v w3 ⟨rfl, hN4⟩
 refine Za ?_
 refine Znn ?_
 refine Zsq ?_
 refine Zbl ?_
 refine Zsq ?_
 replace hA := hA.new hN4
 obtain ⟨rfl, hA0⟩ := hA
 replace hG := hG.new hN4
 obtain ⟨rfl, hG0⟩ := hG
 refine Zrg ?_
 refine Zm ?_
 refine Zn ?_
 refine Zf fo83_2 ?_
 replace hB := hB.new hN4
 refine Zd pl80 (hB.cell 2 rfl) ?_
 refine Zv (.bool false) (fun _ fr => x_pneq Try.underlying80 rfl (fr.ev rfl) rfl rfl) ?_
 refine Zm ?_
 refine Zm ?_
 refine Zn ?_
 refine Zf fo83_3 ?_
 refine Zd pl81 (hB.cell 3 rfl) ?_
 refine Zv (.bool false) (fun _ fr => x_pneq Try.underlying81 rfl (fr.ev rfl) rfl rfl) ?_
 refine Zm ?_
 refine Zs ?_
 refine Zs ?_
 refine Zs ?_
 refine Zs ?_
 refine Zs ?_
 refine Zs ?_
 refine Zs ?_
 refine Zs ?_
 refine Zs ?_
 refine Zpf ?_
 refine Zpf ?_
 refine Za ?_
 refine Znn ?_
 refine Zcf ?_
 refine Zsr ?_
 refine Zm ?_
 refine Zv (.bool false) (fun _ fr => x_neq rfl (fr.ev rfl) rfl (decide_eq_false hs)) ?_
 refine Zm ?_
 refine Zs ?_
 refine Zs ?_
 refine Zs ?_
 refine Zs ?_
 refine Zs ?_
 refine Zs ?_
 refine Zpf ?_
 refine Za ?_
 refine Znn ?_
 refine Zcf ?_
 refine Zsk ?_
 refine Zb ?_
 refine Znx ?_
 refine Zsq ?_
 refine Zsr ?_
 refine Zm ?_
 refine Zn ?_
 refine Zf fo83_1 ?_
 refine Zd pl79 (hB.cell 1 rfl) ?_
 refine Zm ?_
 refine Zm ?_
 replace hL := hL.new hN4
 refine Zk (args := #[.pointer (some ⟨lb, 0, none⟩), .int .u32 line, .int .i64 pick]) cf45 (victim_c line (by omega) pick hL) ?_
 rintro v w5 ⟨rfl, hN6⟩
 intro a fr
 rw [hv] at fr
 simp only [Option.getD_some, Option.isSome_some] at fr
 revert a
 refine Zm ?_
 refine Zt ?_
 refine Zt ?_
 refine Zna (z := zv1) (cs := lnE.arr ln0) (by kernel_rfl) fun b7 w8 hN9 B10 hb11 => ?_
 replace hB := hB.new hN6
 have ne_b_b7 : NE b b7 := NE.mk (Nat.lt_of_lt_of_le hB.lt hb11)
 replace hL := hL.new hN6
 have ap_FpL_b7 : ¬ FpL b7 := hL.apart hb11
 replace hF := (hF.trNew hN4).trNew hN6
 have g_b7 := Nat.le_trans hF.size hb11
 refine ZsS sz39 (lnE.all _) B10 (lnE.size _) (lnE.size _) fun w12 hO13 hBq => ?_
 replace B10 := hBq
 clear hBq
 refine Za ?_
 refine Znn ?_
 refine Zsr ?_
 refine Zm ?_
 refine Znn ?_
 refine Zct ?_
 refine Zsr ?_
 refine Zm ?_
 refine ZE lnE ag39 (B10.rangeE lnE) ?_
 replace hB := (hB.new hN9).only hO13 ne_b_b7
 replace hL := (hL.new hN9).only hO13 (ne1P ap_FpL_b7)
 refine Zk cf46 (out_n hB hL ap_FpL_b vx hx) ?_
 rintro v w25 ⟨A18, cap19, rfl, O20, hA21, b22, B23, hB14, hb24, Fp15, H16, mv17, ap_Fp15_b22, ap_A18_b22, ap2_Fp15_A18, hN26⟩
 have ap_Fp15_b : ¬ Fp15 b := moved_apartP mv17 ap_FpL_b hB.lt
 replace hF := (hF.trNew hN9).loc hO13 (.inr g_b7)
 have gA_Fp15 := gA_movedP hF mv17 gA_FpL
 have ne_b_b22 : NE b b22 := NE.mk (Nat.lt_of_lt_of_le hB.lt hb24)
 have g_b22 := Nat.le_trans hF.size hb24
 have ap_A18_b : Apart A18 b := new_apart hA21 hB.lt
 have gA_A18 := gA_new hF hA21
 have gN_A18 := fun g (hg : inA A18 g) => Nat.le_trans hF.size (hA21 g hg)
 clear hL
 replace hB := hB14
 clear hB14
 have gi_b22 : Fp b22 ∨ w.heap.size ≤ b22 := .inr g_b22
 refine Zm ?_
 refine Zt ?_
 refine Zt ?_
 refine Za ?_
 refine Za ?_
 refine Znn ?_
 refine Zsq ?_
 refine Zsr ?_
 refine Zm ?_
 refine Zv (.bool false) (fun _ fr => x_not rfl (fr.ev rfl) rfl) ?_
 refine Znn ?_
 refine Zcf ?_
 refine Zsk ?_
 refine Znx ?_
 refine Zrg ?_
 refine Zm ?_
 refine Za ?_
 refine Znn ?_
 refine Zsr ?_
 refine Zm ?_
 refine Zm ?_
 refine Zm ?_
 refine Zv (.agg (#[.int .u32 line, .bool false])) (fun a fr => x_build (cells := #[.int .u32 line, .bool false]) rfl (by simp only [List.map_toArray, List.map_cons, List.map_nil, show a.eval (.tmp 77) = .int .u32 line from fr.ev rfl, show a.eval (.tmp 78) = .bool false from fr.ev rfl]; kernel_rfl)) ?_
 refine Znb (cs := #[.int .u32 line, .bool false]) fun b27 w28 hN29 B30 hb31 => ?_
 have ne_b_b27 : NE b b27 := NE.mk (Nat.lt_of_lt_of_le hB.lt hb31)
 have ap_A18_b27 : Apart A18 b27 := O20.apart hb31
 have ne_b22_b27 : NE b22 b27 := NE.mk (Nat.lt_of_lt_of_le B23.lt hb31)
 have ap_Fp15_b27 : ¬ Fp15 b27 := H16.apart hb31
 replace hF := hF.locS hN26 (fun i => (fun h => h.elim (fun e => by rw [e]; exact (.inl ((hP.foot b).2 (.inl rfl)))) (fun h => gA_FpL i h)))
 have g_b27 := Nat.le_trans hF.size hb31
 refine Zn ?_
 refine Zf fo83_2 ?_
 replace hB := hB.new hN29
 refine Zs1 (cs' := #[.int .i64 id, .pointer (some ⟨lb, 0, none⟩), .pointer (some ⟨b27, 0, none⟩), .pointer (some ⟨b22, 0, none⟩)]) sz80 hB (show 2 < 4 by decide) rfl fun w32 hO33 hBq => ?_
 replace hB := hBq
 clear hBq
 refine Znn ?_
 refine Zsr ?_
 refine Za ?_
 refine Znn ?_
 refine Zsq ?_
 refine Zsr ?_
 refine Zm ?_
 refine Znn ?_
 refine Zcf ?_
 refine Zsk ?_
 refine Znx ?_
 refine Zsr ?_
 refine Zm ?_
 refine Zm ?_
 refine Zm ?_
 refine Zm ?_
 refine Zk (args := #[.pointer (some ⟨b, 0, none⟩), .int .i64 1, .int .u32 line]) cf47 (msg_c hB 1 line (by omega)) ?_
 rintro v w34 ⟨rfl, hN35⟩
 intro a fr
 refine fx_build1 (E := msgE) (p := (mkM 1 id 4 line)) elMsg (by decide) fr rfl rfl (by decide) rfl (fr.ev rfl) ?_
 clear fr a
 intro A36 w37 hN38 O39 hA40
 intro a fr
 replace O20 := (((O20.new hN29).only hO33 (Apart.ne1 ap_A18_b)).new hN35).new hN38
 refine fx_append (E := msgE) (l := [putM id vx]) (l' := [(mkM 1 id 4 line)]) elMsg fr rfl rfl (by decide) rfl (fr.ev rfl) (fr.ev rfl) (by first | rfl | (simp; done) | (simp; omega)) (by first | rfl | (simp; done) | (simp; omega)) O20 O39.view (by first | omega | (simp only [List.length_append, List.length_cons, List.length_nil, List.nil_append]; omega)) (by first | (unfold maxLen; done) | (unfold maxLen; first | omega | (simp; done) | (simp; omega))) ?_
 clear fr a
 intro A41 cap42 w43 O44 hO45 mv46
 replace hF := (((hF.trNew hN29).loc hO33 (.inl ((hP.foot b).2 (.inl rfl)))).trNew hN35).trNew hN38
 have gN_A41 := fun g (hg : inA A41 g) => (mv46 g hg).elim (gN_A18 g) (fun h => Nat.le_trans hF.size h)
 clear O20
 refine Za ?_
 refine Za ?_
 refine Znn ?_
 refine Zrt ?_
 refine Zre rfl [_, _] ⟨rfl, rfl, trivial⟩ ?_
 have gi_b27 : Fp b27 ∨ w.heap.size ≤ b27 := .inr g_b27
 replace B23 := ((((B23.new hN29).only hO33 ne_b_b22.symm).new hN35).new hN38).only hO45 ap_A18_b22
 replace H16 := ((((H16.new hN29).only hO33 (ne1P ap_Fp15_b)).new hN35).new hN38).only hO45 (fun g h1 h2 => ap2_Fp15_A18 g h1 h2)
 replace B30 := (((B30.only hO33 ne_b_b27.symm).new hN35).new hN38).only hO45 ap_A18_b27
 replace hB := ((hB.new hN35).new hN38).only hO45 ap_A18_b
 replace hF := hF.locA hO45 gA_A18
 exact ⟨_, rfl, A41, cap42, rfl, O44, gN_A41, (fun k => k = b ∨ Fp15 k ∨ (fun k => k = b27) k ∨ (fun k => k = b22) k), ⟨lb, Fp15, _, _, (fun k => k = b27), (fun k => k = b22), hB, H16, ⟨b27, rfl, B30, fun _ => Iff.rfl, hln⟩, ⟨b22, rfl, B23, fun _ => Iff.rfl⟩, ⟨ap_Fp15_b, (fun e => (show ¬ b = b27 from ne_b_b27) e), (fun e => (show ¬ b = b22 from ne_b_b22) e), (fun k hk e => ap_Fp15_b27 (e ▸ hk)), (fun k hk e => ap_Fp15_b22 (e ▸ hk)), (fun k e e2 => (show ¬ b27 = b22 from ne_b22_b27.symm) (e.symm.trans e2)), fun _ => Iff.rfl⟩⟩, hF, (fun g hg => hg.elim (fun e => by rw [e]; exact .inl ((hP.foot b).2 (.inl rfl))) fun h => h.elim (gA_Fp15 g) fun h => h.elim (fun e => by rw [e]; exact gi_b27) (fun e => by rw [e]; exact gi_b22))⟩
theorem ask_trs {w : World} {Fp : Nat → Prop} {b : Nat} {id : Int} {n : Nat} {ways : Int} {L : List Ln} {gx : Ln} (H : CacheAt w Fp b ⟨id, n, ways, L, none, (some gx)⟩) (line : Int) (hln : 0 ≤ line ∧ line < 4294967296) (pick : Int) (hg : ¬ gx.num = line) (hs : stateOf L line ≠ 0)  : Calls Try.prog 13 #[.pointer (some ⟨b, 0, none⟩), .int .u32 line, .bool false, .int .i64 pick] w (Ret fun v w' => v = .tuple #[.slice none 0 0, .int .i64 231] ∧ New w w') := by
 obtain ⟨lb, FpL, pa, pg, FpA, FpG, hB, hL, hA, hG, hP⟩ := H
 dsimp only at hB hL hA hG
 have ap_FpL_b := hP.lb
 obtain ⟨hn1, hn2, hw1, hw2⟩ := hL.bd
 have gA_FpG := fun g (hg : FpG g) => (Or.inl trivial : True ∨ w.heap.size ≤ g)
 have hF := Only.refl (fun _ => False) w
 refine Zen 91 Try.func13 ?_
 refine Zsr ?_
 refine Za ?_
 refine Za ?_
 refine Znn ?_
 refine Zsq ?_
 refine Zsr ?_
 refine Zm ?_
 refine Zk cf43 (cnone_c hB) ?_
 rintro v w9 ⟨rfl, hw9⟩
 obtain rfl := hw9.symm
 refine Znn ?_
 refine Zcf ?_
 refine Zsk ?_
 refine Znx ?_
 refine Zsr ?_
 refine Zm ?_
 refine Zm ?_
 refine Zk (args := #[.pointer (some ⟨b, 0, none⟩), .int .u32 line]) cf34 (state_c line (by omega) hB hL ap_FpL_b) ?_
 rintro v w3 ⟨rfl, hN4⟩
 refine Za ?_
 refine Znn ?_
 refine Zsq ?_
 refine Zbl ?_
 refine Zsq ?_
 replace hA := hA.new hN4
 obtain ⟨rfl, hA0⟩ := hA
 replace hG := hG.new hN4
 obtain ⟨bg, rfl, hGB, hGF⟩ := hG
 have gi_bg := gA_FpG bg ((hGF bg).2 rfl)
 refine Zrg ?_
 refine Zm ?_
 refine Zn ?_
 refine Zf fo83_2 ?_
 replace hB := hB.new hN4
 refine Zd pl80 (hB.cell 2 rfl) ?_
 refine Zv (.bool false) (fun _ fr => x_pneq Try.underlying80 rfl (fr.ev rfl) rfl rfl) ?_
 refine Zm ?_
 refine Zm ?_
 refine Zn ?_
 refine Zf fo83_3 ?_
 refine Zd pl81 (hB.cell 3 rfl) ?_
 refine Zv (.bool true) (fun _ fr => x_pneq Try.underlying81 rfl (fr.ev rfl) rfl rfl) ?_
 refine Zm ?_
 refine Zm ?_
 refine Zn ?_
 refine Zf fo83_3 ?_
 refine Zd pl81 (hB.cell 3 rfl) ?_
 refine Zn ?_
 refine Zf fo39_0 ?_
 refine Zd (v := .int .u32 gx.num) pl32 (hGB.cell 0 rfl) ?_
 refine Zm ?_
 refine Zv (.bool false) (fun _ fr => x_eql rfl (fr.ev rfl) (fr.ev rfl) (decide_eq_false hg)) ?_
 refine Zpt ?_
 refine Zpf ?_
 refine Za ?_
 refine Znn ?_
 refine Zcf ?_
 refine Zsr ?_
 refine Zm ?_
 refine Zv (.bool true) (fun _ fr => x_neq rfl (fr.ev rfl) rfl (decide_eq_true hs)) ?_
 refine Zm ?_
 refine Zm ?_
 refine Zv (.bool true) (fun _ fr => x_not rfl (fr.ev rfl) rfl) ?_
 refine Zm ?_
 refine Zs ?_
 refine Zs ?_
 refine Zpt ?_
 refine Zpt ?_
 refine Za ?_
 refine Znn ?_
 refine Zct ?_
 refine Zsr ?_
 refine Za ?_
 refine Za ?_
 refine Znn ?_
 refine Zrt ?_
 refine Zr2 ?_
 refine Zr1 ?_
 refine Zre rfl [_, _] ⟨rfl, rfl, trivial⟩ ?_
 replace hF := hF.trNew hN4
 exact ⟨_, rfl, rfl, hF⟩
theorem ask_nr0s {w : World} {Fp : Nat → Prop} {b : Nat} {id : Int} {n : Nat} {ways : Int} {L : List Ln} {gx : Ln} (H : CacheAt w Fp b ⟨id, n, ways, L, none, (some gx)⟩) (line : Int) (hln : 0 ≤ line ∧ line < 4294967296) (pick : Int) (hg : ¬ gx.num = line) (hs : ¬ stateOf L line ≠ 0) (hv : vicL n ways L line pick = none) : Calls Try.prog 13 #[.pointer (some ⟨b, 0, none⟩), .int .u32 line, .bool false, .int .i64 pick] w (Ret fun v w' => ∃ A' cap', v = .tuple #[.slice A' ([askM id line false hln]).length cap', .int .i64 0] ∧ Own msgE w' A' cap' ([askM id line false hln]) ∧ (∀ g, inA A' g → w.heap.size ≤ g) ∧ ∃ Fp', CacheAt w' Fp' b ⟨id, n, ways, L, (some (line, false)), (some gx)⟩ ∧ Only Fp w w' ∧ ∀ g, Fp' g → Fp g ∨ w.heap.size ≤ g) := by
 obtain ⟨lb, FpL, pa, pg, FpA, FpG, hB, hL, hA, hG, hP⟩ := H
 dsimp only at hB hL hA hG
 have ap_FpL_b := hP.lb
 have ap_FpG_b := hP.gb
 have ap2_FpL_FpG := hP.lg
 obtain ⟨hn1, hn2, hw1, hw2⟩ := hL.bd
 have gA_FpL : ∀ g, FpL g → Fp g ∨ w.heap.size ≤ g := fun g hg => .inl ((hP.foot g).2 (.inr (.inl hg)))
 have gA_FpG : ∀ g, FpG g → Fp g ∨ w.heap.size ≤ g := fun g hg => .inl ((hP.foot g).2 (.inr (.inr (.inr hg))))
 have hF := Only.refl (Fp) w
 refine Zen 91 Try.func13 ?_
 refine Zsr ?_
 refine Za ?_
 refine Za ?_
 refine Znn ?_
 refine Zsq ?_
 refine Zsr ?_
 refine Zm ?_
 refine Zk cf43 (cnone_c hB) ?_
 rintro v w9 ⟨rfl, hw9⟩
 obtain rfl := hw9.symm
 refine Znn ?_
 refine Zcf ?_
 refine Zsk ?_
 refine Znx ?_
 refine Zsr ?_
 refine Zm ?_
 refine Zm ?_
 refine Zk (args := #[.pointer (some ⟨b, 0, none⟩), .int .u32 line]) cf34 (state_c line (by omega) hB hL ap_FpL_b) ?_
 rintro v w3 ⟨rfl, hN4⟩
 refine Za ?_
 refine Znn ?_
 refine Zsq ?_
 refine Zbl ?_
 refine Zsq ?_
 replace hA := hA.new hN4
 obtain ⟨rfl, hA0⟩ := hA
 replace hG := hG.new hN4
 obtain ⟨bg, rfl, hGB, hGF⟩ := hG
 have ne_bg_b : NE bg b := fun e => ap_FpG_b (e ▸ (hGF bg).2 rfl)
 have ap_FpL_bg : ¬ FpL bg := fun h => ap2_FpL_FpG bg h ((hGF bg).2 rfl)
 have gi_bg := gA_FpG bg ((hGF bg).2 rfl)
 refine Zrg ?_
 refine Zm ?_
 refine Zn ?_
 refine Zf fo83_2 ?_
 replace hB := hB.new hN4
 refine Zd pl80 (hB.cell 2 rfl) ?_
 refine Zv (.bool false) (fun _ fr => x_pneq Try.underlying80 rfl (fr.ev rfl) rfl rfl) ?_
 refine Zm ?_
 refine Zm ?_
 refine Zn ?_
 refine Zf fo83_3 ?_
 refine Zd pl81 (hB.cell 3 rfl) ?_
 refine Zv (.bool true) (fun _ fr => x_pneq Try.underlying81 rfl (fr.ev rfl) rfl rfl) ?_
 refine Zm ?_
 refine Zm ?_
 refine Zn ?_
 refine Zf fo83_3 ?_
 refine Zd pl81 (hB.cell 3 rfl) ?_
 refine Zn ?_
 refine Zf fo39_0 ?_
 refine Zd (v := .int .u32 gx.num) pl32 (hGB.cell 0 rfl) ?_
 refine Zm ?_
 refine Zv (.bool false) (fun _ fr => x_eql rfl (fr.ev rfl) (fr.ev rfl) (decide_eq_false hg)) ?_
 refine Zpt ?_
 refine Zpf ?_
 refine Za ?_
 refine Znn ?_
 refine Zcf ?_
 refine Zsr ?_
 refine Zm ?_
 refine Zv (.bool false) (fun _ fr => x_neq rfl (fr.ev rfl) rfl (decide_eq_false hs)) ?_
 refine Zm ?_
 refine Zs ?_
 refine Zs ?_
 refine Zs ?_
 refine Zs ?_
 refine Zs ?_
 refine Zs ?_
 refine Zpf ?_
 refine Za ?_
 refine Znn ?_
 refine Zcf ?_
 refine Zsk ?_
 refine Zb ?_
 refine Znx ?_
 refine Zsq ?_
 refine Zsr ?_
 refine Zm ?_
 refine Zn ?_
 refine Zf fo83_1 ?_
 refine Zd pl79 (hB.cell 1 rfl) ?_
 refine Zm ?_
 refine Zm ?_
 replace hL := hL.new hN4
 refine Zk (args := #[.pointer (some ⟨lb, 0, none⟩), .int .u32 line, .int .i64 pick]) cf45 (victim_c line (by omega) pick hL) ?_
 rintro v w5 ⟨rfl, hN6⟩
 intro a fr
 rw [hv] at fr
 simp only [Option.getD_none, Option.isSome_none] at fr
 revert a
 refine Zm ?_
 refine Zt ?_
 refine Zt ?_
 refine Zna (z := zv1) (cs := lnE.arr ln0) (by kernel_rfl) fun b7 w8 hN9 B10 hb11 => ?_
 replace hB := hB.new hN6
 have ne_b_b7 : NE b b7 := NE.mk (Nat.lt_of_lt_of_le hB.lt hb11)
 replace hL := hL.new hN6
 have ap_FpL_b7 : ¬ FpL b7 := hL.apart hb11
 replace hGB := hGB.new hN6
 have ne_bg_b7 : NE bg b7 := NE.mk (Nat.lt_of_lt_of_le hGB.lt hb11)
 replace hF := (hF.trNew hN4).trNew hN6
 have g_b7 := Nat.le_trans hF.size hb11
 refine ZsS sz39 (lnE.all _) B10 (lnE.size _) (lnE.size _) fun w12 hO13 hBq => ?_
 clear hBq
 refine Za ?_
 refine Znn ?_
 refine Zsr ?_
 refine Zm ?_
 refine Znn ?_
 refine Zcf ?_
 refine Zsk ?_
 refine Znx ?_
 refine Zsr ?_
 refine Zm ?_
 refine Zm ?_
 refine Zm ?_
 refine Zv (.agg (#[.int .u32 line, .bool false])) (fun a fr => x_build (cells := #[.int .u32 line, .bool false]) rfl (by simp only [List.map_toArray, List.map_cons, List.map_nil, show a.eval (.tmp 77) = .int .u32 line from fr.ev rfl, show a.eval (.tmp 78) = .bool false from fr.ev rfl]; kernel_rfl)) ?_
 refine Znb (cs := #[.int .u32 line, .bool false]) fun b14 w15 hN16 B17 hb18 => ?_
 replace hB := (hB.new hN9).only hO13 ne_b_b7
 have ne_b_b14 : NE b b14 := NE.mk (Nat.lt_of_lt_of_le hB.lt hb18)
 replace hL := (hL.new hN9).only hO13 (ne1P ap_FpL_b7)
 have ap_FpL_b14 : ¬ FpL b14 := hL.apart hb18
 replace hGB := (hGB.new hN9).only hO13 ne_bg_b7
 have ne_bg_b14 : NE bg b14 := NE.mk (Nat.lt_of_lt_of_le hGB.lt hb18)
 replace hF := (hF.trNew hN9).loc hO13 (.inr g_b7)
 have g_b14 := Nat.le_trans hF.size hb18
 refine Zn ?_
 refine Zf fo83_2 ?_
 replace hB := hB.new hN16
 refine Zs1 (cs' := #[.int .i64 id, .pointer (some ⟨lb, 0, none⟩), .pointer (some ⟨b14, 0, none⟩), .pointer (some ⟨bg, 0, none⟩)]) sz80 hB (show 2 < 4 by decide) rfl fun w19 hO20 hBq => ?_
 replace hB := hBq
 clear hBq
 refine Znn ?_
 refine Zsr ?_
 refine Za ?_
 refine Znn ?_
 refine Zsq ?_
 refine Zsr ?_
 refine Zm ?_
 refine Znn ?_
 refine Zcf ?_
 refine Zsk ?_
 refine Znx ?_
 refine Zsr ?_
 refine Zm ?_
 refine Zm ?_
 refine Zm ?_
 refine Zm ?_
 refine Zk (args := #[.pointer (some ⟨b, 0, none⟩), .int .i64 1, .int .u32 line]) cf47 (msg_c hB 1 line (by omega)) ?_
 rintro v w21 ⟨rfl, hN22⟩
 intro a fr
 refine fx_build1 (E := msgE) (p := (mkM 1 id 4 line)) elMsg (by decide) fr rfl rfl (by decide) rfl (fr.ev rfl) ?_
 clear fr a
 intro A23 w24 hN25 O26 hA27
 intro a fr
 refine fx_append (E := msgE) (l := []) (l' := [(mkM 1 id 4 line)]) elMsg fr rfl rfl (by decide) rfl (fr.ev rfl) (fr.ev rfl) (by first | rfl | (simp; done) | (simp; omega)) (by first | rfl | (simp; done) | (simp; omega)) Own.nil O26.view (by first | omega | (simp only [List.length_append, List.length_cons, List.length_nil, List.nil_append]; omega)) (by first | (unfold maxLen; done) | (unfold maxLen; first | omega | (simp; done) | (simp; omega))) ?_
 clear fr a
 intro A28 cap29 w30 O31 hO32 mv33
 replace hF := (((hF.trNew hN16).loc hO20 (.inl ((hP.foot b).2 (.inl rfl)))).trNew hN22).trNew hN25
 have gN_A28 := fun g (hg : inA A28 g) => (mv33 g hg).elim (fun h => absurd h (apart_none g)) (fun h => Nat.le_trans hF.size h)
 replace hO32 := only_none hO32
 refine Za ?_
 refine Za ?_
 refine Znn ?_
 refine Zrt ?_
 refine Zre rfl [_, _] ⟨rfl, rfl, trivial⟩ ?_
 have gi_b14 : Fp b14 ∨ w.heap.size ≤ b14 := .inr g_b14
 replace hL := ((((hL.new hN16).only hO20 (ne1P ap_FpL_b)).new hN22).new hN25).new hO32
 replace hGB := ((((hGB.new hN16).only hO20 ne_bg_b).new hN22).new hN25).new hO32
 replace B17 := (((B17.only hO20 ne_b_b14.symm).new hN22).new hN25).new hO32
 replace hB := ((hB.new hN22).new hN25).new hO32
 replace hF := hF.trNew hO32
 exact ⟨_, rfl, A28, cap29, rfl, O31, gN_A28, (fun k => k = b ∨ FpL k ∨ (fun k => k = b14) k ∨ (fun k => k = bg) k), ⟨lb, FpL, _, _, (fun k => k = b14), (fun k => k = bg), hB, hL, ⟨b14, rfl, B17, fun _ => Iff.rfl, hln⟩, ⟨bg, rfl, hGB, fun _ => Iff.rfl⟩, ⟨ap_FpL_b, (fun e => (show ¬ b = b14 from ne_b_b14) e), (fun e => (show ¬ b = bg from ne_bg_b.symm) e), (fun k hk e => ap_FpL_b14 (e ▸ hk)), (fun k hk e => ap_FpL_bg (e ▸ hk)), (fun k e e2 => (show ¬ b14 = bg from ne_bg_b14.symm) (e.symm.trans e2)), fun _ => Iff.rfl⟩⟩, hF, (fun g hg => hg.elim (fun e => by rw [e]; exact .inl ((hP.foot b).2 (.inl rfl))) fun h => h.elim (gA_FpL g) fun h => h.elim (fun e => by rw [e]; exact gi_b14) (fun e => by rw [e]; exact gi_bg))⟩
theorem ask_sr0s {w : World} {Fp : Nat → Prop} {b : Nat} {id : Int} {n : Nat} {ways : Int} {L : List Ln} {gx : Ln} (H : CacheAt w Fp b ⟨id, n, ways, L, none, (some gx)⟩) (line : Int) (hln : 0 ≤ line ∧ line < 4294967296) (pick : Int) (hg : ¬ gx.num = line) (hs : ¬ stateOf L line ≠ 0) (vx : Ln) (hv : vicL n ways L line pick = some vx) (hx : vx.state = 1) : Calls Try.prog 13 #[.pointer (some ⟨b, 0, none⟩), .int .u32 line, .bool false, .int .i64 pick] w (Ret fun v w' => ∃ A' cap', v = .tuple #[.slice A' ([askM id line false hln]).length cap', .int .i64 0] ∧ Own msgE w' A' cap' ([askM id line false hln]) ∧ (∀ g, inA A' g → w.heap.size ≤ g) ∧ ∃ Fp', CacheAt w' Fp' b ⟨id, n, ways, dropL L vx.num, (some (line, false)), (some gx)⟩ ∧ Only Fp w w' ∧ ∀ g, Fp' g → Fp g ∨ w.heap.size ≤ g) := by
 obtain ⟨lb, FpL, pa, pg, FpA, FpG, hB, hL, hA, hG, hP⟩ := H
 dsimp only at hB hL hA hG
 have ap_FpL_b := hP.lb
 have ap_FpG_b := hP.gb
 have ap2_FpL_FpG := hP.lg
 obtain ⟨hn1, hn2, hw1, hw2⟩ := hL.bd
 have gA_FpL : ∀ g, FpL g → Fp g ∨ w.heap.size ≤ g := fun g hg => .inl ((hP.foot g).2 (.inr (.inl hg)))
 have gA_FpG : ∀ g, FpG g → Fp g ∨ w.heap.size ≤ g := fun g hg => .inl ((hP.foot g).2 (.inr (.inr (.inr hg))))
 have hF := Only.refl (Fp) w
 refine Zen 91 Try.func13 ?_
 refine Zsr ?_
 refine Za ?_
 refine Za ?_
 refine Znn ?_
 refine Zsq ?_
 refine Zsr ?_
 refine Zm ?_
 refine Zk cf43 (cnone_c hB) ?_
 rintro v w9 ⟨rfl, hw9⟩
 obtain rfl := hw9.symm
 refine Znn ?_
 refine Zcf ?_
 refine Zsk ?_
 refine Znx ?_
 refine Zsr ?_
 refine Zm ?_
 refine Zm ?_
 refine Zk (args := #[.pointer (some ⟨b, 0, none⟩), .int .u32 line]) cf34 (state_c line (by omega) hB hL ap_FpL_b) ?_
 rintro v w3 ⟨rfl, hN4⟩
 refine Za ?_
 refine Znn ?_
 refine Zsq ?_
 refine Zbl ?_
 refine Zsq ?_
 replace hA := hA.new hN4
 obtain ⟨rfl, hA0⟩ := hA
 replace hG := hG.new hN4
 obtain ⟨bg, rfl, hGB, hGF⟩ := hG
 have ne_bg_b : NE bg b := fun e => ap_FpG_b (e ▸ (hGF bg).2 rfl)
 have ap_FpL_bg : ¬ FpL bg := fun h => ap2_FpL_FpG bg h ((hGF bg).2 rfl)
 have gi_bg := gA_FpG bg ((hGF bg).2 rfl)
 refine Zrg ?_
 refine Zm ?_
 refine Zn ?_
 refine Zf fo83_2 ?_
 replace hB := hB.new hN4
 refine Zd pl80 (hB.cell 2 rfl) ?_
 refine Zv (.bool false) (fun _ fr => x_pneq Try.underlying80 rfl (fr.ev rfl) rfl rfl) ?_
 refine Zm ?_
 refine Zm ?_
 refine Zn ?_
 refine Zf fo83_3 ?_
 refine Zd pl81 (hB.cell 3 rfl) ?_
 refine Zv (.bool true) (fun _ fr => x_pneq Try.underlying81 rfl (fr.ev rfl) rfl rfl) ?_
 refine Zm ?_
 refine Zm ?_
 refine Zn ?_
 refine Zf fo83_3 ?_
 refine Zd pl81 (hB.cell 3 rfl) ?_
 refine Zn ?_
 refine Zf fo39_0 ?_
 refine Zd (v := .int .u32 gx.num) pl32 (hGB.cell 0 rfl) ?_
 refine Zm ?_
 refine Zv (.bool false) (fun _ fr => x_eql rfl (fr.ev rfl) (fr.ev rfl) (decide_eq_false hg)) ?_
 refine Zpt ?_
 refine Zpf ?_
 refine Za ?_
 refine Znn ?_
 refine Zcf ?_
 refine Zsr ?_
 refine Zm ?_
 refine Zv (.bool false) (fun _ fr => x_neq rfl (fr.ev rfl) rfl (decide_eq_false hs)) ?_
 refine Zm ?_
 refine Zs ?_
 refine Zs ?_
 refine Zs ?_
 refine Zs ?_
 refine Zs ?_
 refine Zs ?_
 refine Zpf ?_
 refine Za ?_
 refine Znn ?_
 refine Zcf ?_
 refine Zsk ?_
 refine Zb ?_
 refine Znx ?_
 refine Zsq ?_
 refine Zsr ?_
 refine Zm ?_
 refine Zn ?_
 refine Zf fo83_1 ?_
 refine Zd pl79 (hB.cell 1 rfl) ?_
 refine Zm ?_
 refine Zm ?_
 replace hL := hL.new hN4
 refine Zk (args := #[.pointer (some ⟨lb, 0, none⟩), .int .u32 line, .int .i64 pick]) cf45 (victim_c line (by omega) pick hL) ?_
 rintro v w5 ⟨rfl, hN6⟩
 intro a fr
 rw [hv] at fr
 simp only [Option.getD_some, Option.isSome_some] at fr
 revert a
 refine Zm ?_
 refine Zt ?_
 refine Zt ?_
 refine Zna (z := zv1) (cs := lnE.arr ln0) (by kernel_rfl) fun b7 w8 hN9 B10 hb11 => ?_
 replace hB := hB.new hN6
 have ne_b_b7 : NE b b7 := NE.mk (Nat.lt_of_lt_of_le hB.lt hb11)
 replace hL := hL.new hN6
 have ap_FpL_b7 : ¬ FpL b7 := hL.apart hb11
 replace hGB := hGB.new hN6
 have ne_bg_b7 : NE bg b7 := NE.mk (Nat.lt_of_lt_of_le hGB.lt hb11)
 replace hF := (hF.trNew hN4).trNew hN6
 have g_b7 := Nat.le_trans hF.size hb11
 refine ZsS sz39 (lnE.all _) B10 (lnE.size _) (lnE.size _) fun w12 hO13 hBq => ?_
 replace B10 := hBq
 clear hBq
 refine Za ?_
 refine Znn ?_
 refine Zsr ?_
 refine Zm ?_
 refine Znn ?_
 refine Zct ?_
 refine Zsr ?_
 refine Zm ?_
 refine ZE lnE ag39 (B10.rangeE lnE) ?_
 replace hB := (hB.new hN9).only hO13 ne_b_b7
 replace hL := (hL.new hN9).only hO13 (ne1P ap_FpL_b7)
 refine Zk cf46 (out_s hB hL ap_FpL_b vx hx) ?_
 rintro v w18 ⟨rfl, hB14, Fp15, H16, mv17, hN19⟩
 have ap_Fp15_b : ¬ Fp15 b := moved_apartP mv17 ap_FpL_b hB.lt
 replace hGB := (hGB.new hN9).only hO13 ne_bg_b7
 have ap_Fp15_bg : ¬ Fp15 bg := moved_apartP mv17 ap_FpL_bg hGB.lt
 replace hF := (hF.trNew hN9).loc hO13 (.inr g_b7)
 have gA_Fp15 := gA_movedP hF mv17 gA_FpL
 clear hL
 replace hB := hB14
 clear hB14
 refine Zm ?_
 refine Zt ?_
 refine Zt ?_
 refine Za ?_
 refine Za ?_
 refine Znn ?_
 refine Zsq ?_
 refine Zsr ?_
 refine Zm ?_
 refine Zv (.bool false) (fun _ fr => x_not rfl (fr.ev rfl) rfl) ?_
 refine Znn ?_
 refine Zcf ?_
 refine Zsk ?_
 refine Znx ?_
 refine Zrg ?_
 refine Zm ?_
 refine Za ?_
 refine Znn ?_
 refine Zsr ?_
 refine Zm ?_
 refine Zm ?_
 refine Zm ?_
 refine Zv (.agg (#[.int .u32 line, .bool false])) (fun a fr => x_build (cells := #[.int .u32 line, .bool false]) rfl (by simp only [List.map_toArray, List.map_cons, List.map_nil, show a.eval (.tmp 77) = .int .u32 line from fr.ev rfl, show a.eval (.tmp 78) = .bool false from fr.ev rfl]; kernel_rfl)) ?_
 refine Znb (cs := #[.int .u32 line, .bool false]) fun b20 w21 hN22 B23 hb24 => ?_
 replace hGB := hGB.only hN19 (fun h => h.elim ne_bg_b ap_FpL_bg)
 have ne_bg_b20 : NE bg b20 := NE.mk (Nat.lt_of_lt_of_le hGB.lt hb24)
 have ne_b_b20 : NE b b20 := NE.mk (Nat.lt_of_lt_of_le hB.lt hb24)
 have ap_Fp15_b20 : ¬ Fp15 b20 := H16.apart hb24
 replace hF := hF.locS hN19 (fun i => (fun h => h.elim (fun e => by rw [e]; exact (.inl ((hP.foot b).2 (.inl rfl)))) (fun h => gA_FpL i h)))
 have g_b20 := Nat.le_trans hF.size hb24
 refine Zn ?_
 refine Zf fo83_2 ?_
 replace hB := hB.new hN22
 refine Zs1 (cs' := #[.int .i64 id, .pointer (some ⟨lb, 0, none⟩), .pointer (some ⟨b20, 0, none⟩), .pointer (some ⟨bg, 0, none⟩)]) sz80 hB (show 2 < 4 by decide) rfl fun w25 hO26 hBq => ?_
 replace hB := hBq
 clear hBq
 refine Znn ?_
 refine Zsr ?_
 refine Za ?_
 refine Znn ?_
 refine Zsq ?_
 refine Zsr ?_
 refine Zm ?_
 refine Znn ?_
 refine Zcf ?_
 refine Zsk ?_
 refine Znx ?_
 refine Zsr ?_
 refine Zm ?_
 refine Zm ?_
 refine Zm ?_
 refine Zm ?_
 refine Zk (args := #[.pointer (some ⟨b, 0, none⟩), .int .i64 1, .int .u32 line]) cf47 (msg_c hB 1 line (by omega)) ?_
 rintro v w27 ⟨rfl, hN28⟩
 intro a fr
 refine fx_build1 (E := msgE) (p := (mkM 1 id 4 line)) elMsg (by decide) fr rfl rfl (by decide) rfl (fr.ev rfl) ?_
 clear fr a
 intro A29 w30 hN31 O32 hA33
 intro a fr
 refine fx_append (E := msgE) (l := []) (l' := [(mkM 1 id 4 line)]) elMsg fr rfl rfl (by decide) rfl (fr.ev rfl) (fr.ev rfl) (by first | rfl | (simp; done) | (simp; omega)) (by first | rfl | (simp; done) | (simp; omega)) Own.nil O32.view (by first | omega | (simp only [List.length_append, List.length_cons, List.length_nil, List.nil_append]; omega)) (by first | (unfold maxLen; done) | (unfold maxLen; first | omega | (simp; done) | (simp; omega))) ?_
 clear fr a
 intro A34 cap35 w36 O37 hO38 mv39
 replace hF := (((hF.trNew hN22).loc hO26 (.inl ((hP.foot b).2 (.inl rfl)))).trNew hN28).trNew hN31
 have gN_A34 := fun g (hg : inA A34 g) => (mv39 g hg).elim (fun h => absurd h (apart_none g)) (fun h => Nat.le_trans hF.size h)
 replace hO38 := only_none hO38
 refine Za ?_
 refine Za ?_
 refine Znn ?_
 refine Zrt ?_
 refine Zre rfl [_, _] ⟨rfl, rfl, trivial⟩ ?_
 have gi_b20 : Fp b20 ∨ w.heap.size ≤ b20 := .inr g_b20
 replace hGB := ((((hGB.new hN22).only hO26 ne_bg_b).new hN28).new hN31).new hO38
 replace H16 := ((((H16.new hN22).only hO26 (ne1P ap_Fp15_b)).new hN28).new hN31).new hO38
 replace B23 := (((B23.only hO26 ne_b_b20.symm).new hN28).new hN31).new hO38
 replace hB := ((hB.new hN28).new hN31).new hO38
 replace hF := hF.trNew hO38
 exact ⟨_, rfl, A34, cap35, rfl, O37, gN_A34, (fun k => k = b ∨ Fp15 k ∨ (fun k => k = b20) k ∨ (fun k => k = bg) k), ⟨lb, Fp15, _, _, (fun k => k = b20), (fun k => k = bg), hB, H16, ⟨b20, rfl, B23, fun _ => Iff.rfl, hln⟩, ⟨bg, rfl, hGB, fun _ => Iff.rfl⟩, ⟨ap_Fp15_b, (fun e => (show ¬ b = b20 from ne_b_b20) e), (fun e => (show ¬ b = bg from ne_bg_b.symm) e), (fun k hk e => ap_Fp15_b20 (e ▸ hk)), (fun k hk e => ap_Fp15_bg (e ▸ hk)), (fun k e e2 => (show ¬ b20 = bg from ne_bg_b20.symm) (e.symm.trans e2)), fun _ => Iff.rfl⟩⟩, hF, (fun g hg => hg.elim (fun e => by rw [e]; exact .inl ((hP.foot b).2 (.inl rfl))) fun h => h.elim (gA_Fp15 g) fun h => h.elim (fun e => by rw [e]; exact gi_b20) (fun e => by rw [e]; exact gi_bg))⟩
theorem ask_br0s {w : World} {Fp : Nat → Prop} {b : Nat} {id : Int} {n : Nat} {ways : Int} {L : List Ln} {gx : Ln} (H : CacheAt w Fp b ⟨id, n, ways, L, none, (some gx)⟩) (line : Int) (hln : 0 ≤ line ∧ line < 4294967296) (pick : Int) (hg : ¬ gx.num = line) (hs : ¬ stateOf L line ≠ 0) (vx : Ln) (hv : vicL n ways L line pick = some vx) (hx : ¬ vx.state = 1) : Calls Try.prog 13 #[.pointer (some ⟨b, 0, none⟩), .int .u32 line, .bool false, .int .i64 pick] w (Ret fun v w' => v = .tuple #[.slice none 0 0, .int .i64 230] ∧ New w w') := by
 obtain ⟨lb, FpL, pa, pg, FpA, FpG, hB, hL, hA, hG, hP⟩ := H
 dsimp only at hB hL hA hG
 have ap_FpL_b := hP.lb
 obtain ⟨hn1, hn2, hw1, hw2⟩ := hL.bd
 have gA_FpG := fun g (hg : FpG g) => (Or.inl trivial : True ∨ w.heap.size ≤ g)
 have hF := Only.refl (fun _ => False) w
 refine Zen 91 Try.func13 ?_
 refine Zsr ?_
 refine Za ?_
 refine Za ?_
 refine Znn ?_
 refine Zsq ?_
 refine Zsr ?_
 refine Zm ?_
 refine Zk cf43 (cnone_c hB) ?_
 rintro v w9 ⟨rfl, hw9⟩
 obtain rfl := hw9.symm
 refine Znn ?_
 refine Zcf ?_
 refine Zsk ?_
 refine Znx ?_
 refine Zsr ?_
 refine Zm ?_
 refine Zm ?_
 refine Zk (args := #[.pointer (some ⟨b, 0, none⟩), .int .u32 line]) cf34 (state_c line (by omega) hB hL ap_FpL_b) ?_
 rintro v w3 ⟨rfl, hN4⟩
 refine Za ?_
 refine Znn ?_
 refine Zsq ?_
 refine Zbl ?_
 refine Zsq ?_
 replace hA := hA.new hN4
 obtain ⟨rfl, hA0⟩ := hA
 replace hG := hG.new hN4
 obtain ⟨bg, rfl, hGB, hGF⟩ := hG
 have gi_bg := gA_FpG bg ((hGF bg).2 rfl)
 refine Zrg ?_
 refine Zm ?_
 refine Zn ?_
 refine Zf fo83_2 ?_
 replace hB := hB.new hN4
 refine Zd pl80 (hB.cell 2 rfl) ?_
 refine Zv (.bool false) (fun _ fr => x_pneq Try.underlying80 rfl (fr.ev rfl) rfl rfl) ?_
 refine Zm ?_
 refine Zm ?_
 refine Zn ?_
 refine Zf fo83_3 ?_
 refine Zd pl81 (hB.cell 3 rfl) ?_
 refine Zv (.bool true) (fun _ fr => x_pneq Try.underlying81 rfl (fr.ev rfl) rfl rfl) ?_
 refine Zm ?_
 refine Zm ?_
 refine Zn ?_
 refine Zf fo83_3 ?_
 refine Zd pl81 (hB.cell 3 rfl) ?_
 refine Zn ?_
 refine Zf fo39_0 ?_
 refine Zd (v := .int .u32 gx.num) pl32 (hGB.cell 0 rfl) ?_
 refine Zm ?_
 refine Zv (.bool false) (fun _ fr => x_eql rfl (fr.ev rfl) (fr.ev rfl) (decide_eq_false hg)) ?_
 refine Zpt ?_
 refine Zpf ?_
 refine Za ?_
 refine Znn ?_
 refine Zcf ?_
 refine Zsr ?_
 refine Zm ?_
 refine Zv (.bool false) (fun _ fr => x_neq rfl (fr.ev rfl) rfl (decide_eq_false hs)) ?_
 refine Zm ?_
 refine Zs ?_
 refine Zs ?_
 refine Zs ?_
 refine Zs ?_
 refine Zs ?_
 refine Zs ?_
 refine Zpf ?_
 refine Za ?_
 refine Znn ?_
 refine Zcf ?_
 refine Zsk ?_
 refine Zb ?_
 refine Znx ?_
 refine Zsq ?_
 refine Zsr ?_
 refine Zm ?_
 refine Zn ?_
 refine Zf fo83_1 ?_
 refine Zd pl79 (hB.cell 1 rfl) ?_
 refine Zm ?_
 refine Zm ?_
 replace hL := hL.new hN4
 refine Zk (args := #[.pointer (some ⟨lb, 0, none⟩), .int .u32 line, .int .i64 pick]) cf45 (victim_c line (by omega) pick hL) ?_
 rintro v w5 ⟨rfl, hN6⟩
 intro a fr
 rw [hv] at fr
 simp only [Option.getD_some, Option.isSome_some] at fr
 revert a
 refine Zm ?_
 refine Zt ?_
 refine Zt ?_
 refine Zna (z := zv1) (cs := lnE.arr ln0) (by kernel_rfl) fun b7 w8 hN9 B10 hb11 => ?_
 replace hB := hB.new hN6
 have ne_b_b7 : NE b b7 := NE.mk (Nat.lt_of_lt_of_le hB.lt hb11)
 replace hL := hL.new hN6
 have ap_FpL_b7 : ¬ FpL b7 := hL.apart hb11
 replace hF := (hF.trNew hN4).trNew hN6
 have g_b7 := Nat.le_trans hF.size hb11
 refine ZsS sz39 (lnE.all _) B10 (lnE.size _) (lnE.size _) fun w12 hO13 hBq => ?_
 replace B10 := hBq
 clear hBq
 refine Za ?_
 refine Znn ?_
 refine Zsr ?_
 refine Zm ?_
 refine Znn ?_
 refine Zct ?_
 refine Zsr ?_
 refine Zm ?_
 refine ZE lnE ag39 (B10.rangeE lnE) ?_
 replace hB := (hB.new hN9).only hO13 ne_b_b7
 replace hL := (hL.new hN9).only hO13 (ne1P ap_FpL_b7)
 refine Zk cf46 (out_b hB hL ap_FpL_b vx hx) ?_
 rintro v w14 ⟨rfl, hN15⟩
 refine Zm ?_
 refine Zt ?_
 refine Zt ?_
 refine Za ?_
 refine Za ?_
 refine Znn ?_
 refine Zsq ?_
 refine Zsr ?_
 refine Zm ?_
 refine Zv (.bool true) (fun _ fr => x_not rfl (fr.ev rfl) rfl) ?_
 refine Znn ?_
 refine Zct ?_
 refine Zsr ?_
 refine Za ?_
 refine Za ?_
 refine Znn ?_
 refine Zrt ?_
 refine Zr1 ?_
 refine Zr1 ?_
 refine Zre rfl [_, _] ⟨rfl, rfl, trivial⟩ ?_
 replace hF := ((hF.trNew hN9).loc hO13 (.inr g_b7)).trNew hN15
 exact ⟨_, rfl, rfl, hF⟩
end Go.Proofs.Ytflnlmibkbojcaa
namespace Go.Proofs.Ytflnlmibkbojcaa
open Go.RowKit
theorem ask_twn {w : World} {Fp : Nat → Prop} {b : Nat} {id : Int} {n : Nat} {ways : Int} {L : List Ln} (H : CacheAt w Fp b ⟨id, n, ways, L, none, none⟩) (line : Int) (hln : 0 ≤ line ∧ line < 4294967296) (pick : Int) (hs : stateOf L line ≠ 0) (hw : writesB (stateOf L line) = true)  : Calls Try.prog 13 #[.pointer (some ⟨b, 0, none⟩), .int .u32 line, .bool true, .int .i64 pick] w (Ret fun v w' => v = .tuple #[.slice none 0 0, .int .i64 231] ∧ New w w') := by
 obtain ⟨lb, FpL, pa, pg, FpA, FpG, hB, hL, hA, hG, hP⟩ := H
 dsimp only at hB hL hA hG
 have ap_FpL_b := hP.lb
 obtain ⟨hn1, hn2, hw1, hw2⟩ := hL.bd
 have hF := Only.refl (fun _ => False) w
 refine Zen 91 Try.func13 ?_
 refine Zsr ?_
 refine Za ?_
 refine Za ?_
 refine Znn ?_
 refine Zsq ?_
 refine Zsr ?_
 refine Zm ?_
 refine Zk cf43 (cnone_c hB) ?_
 rintro v w9 ⟨rfl, hw9⟩
 obtain rfl := hw9.symm
 refine Znn ?_
 refine Zcf ?_
 refine Zsk ?_
 refine Znx ?_
 refine Zsr ?_
 refine Zm ?_
 refine Zm ?_
 refine Zk (args := #[.pointer (some ⟨b, 0, none⟩), .int .u32 line]) cf34 (state_c line (by omega) hB hL ap_FpL_b) ?_
 rintro v w3 ⟨rfl, hN4⟩
 refine Za ?_
 refine Znn ?_
 refine Zsq ?_
 refine Zbl ?_
 refine Zsq ?_
 replace hA := hA.new hN4
 obtain ⟨rfl, hA0⟩ := hA
 replace hG := hG.new hN4
 obtain ⟨rfl, hG0⟩ := hG
 refine Zrg ?_
 refine Zm ?_
 refine Zn ?_
 refine Zf fo83_2 ?_
 replace hB := hB.new hN4
 refine Zd pl80 (hB.cell 2 rfl) ?_
 refine Zv (.bool false) (fun _ fr => x_pneq Try.underlying80 rfl (fr.ev rfl) rfl rfl) ?_
 refine Zm ?_
 refine Zm ?_
 refine Zn ?_
 refine Zf fo83_3 ?_
 refine Zd pl81 (hB.cell 3 rfl) ?_
 refine Zv (.bool false) (fun _ fr => x_pneq Try.underlying81 rfl (fr.ev rfl) rfl rfl) ?_
 refine Zm ?_
 refine Zs ?_
 refine Zs ?_
 refine Zs ?_
 refine Zs ?_
 refine Zs ?_
 refine Zs ?_
 refine Zs ?_
 refine Zs ?_
 refine Zs ?_
 refine Zpf ?_
 refine Zpf ?_
 refine Za ?_
 refine Znn ?_
 refine Zcf ?_
 refine Zsr ?_
 refine Zm ?_
 refine Zv (.bool true) (fun _ fr => x_neq rfl (fr.ev rfl) rfl (decide_eq_true hs)) ?_
 refine Zm ?_
 refine Zm ?_
 refine Zv (.bool false) (fun _ fr => x_not rfl (fr.ev rfl) rfl) ?_
 refine Zm ?_
 refine Zm ?_
 refine Zk cf44 (writes_c (stateOf L line) _) ?_
 rintro v _ ⟨rfl, hw9⟩
 obtain rfl := hw9.symm
 intro a fr
 rw [hw] at fr
 revert a
 refine Zpf ?_
 refine Zpt ?_
 refine Za ?_
 refine Znn ?_
 refine Zct ?_
 refine Zsr ?_
 refine Za ?_
 refine Za ?_
 refine Znn ?_
 refine Zrt ?_
 refine Zr2 ?_
 refine Zr1 ?_
 refine Zre rfl [_, _] ⟨rfl, rfl, trivial⟩ ?_
 replace hF := hF.trNew hN4
 exact ⟨_, rfl, rfl, hF⟩
theorem ask_nw0n {w : World} {Fp : Nat → Prop} {b : Nat} {id : Int} {n : Nat} {ways : Int} {L : List Ln} (H : CacheAt w Fp b ⟨id, n, ways, L, none, none⟩) (line : Int) (hln : 0 ≤ line ∧ line < 4294967296) (pick : Int) (hs : ¬ stateOf L line ≠ 0) (hv : vicL n ways L line pick = none) : Calls Try.prog 13 #[.pointer (some ⟨b, 0, none⟩), .int .u32 line, .bool true, .int .i64 pick] w (Ret fun v w' => ∃ A' cap', v = .tuple #[.slice A' ([askM id line true hln]).length cap', .int .i64 0] ∧ Own msgE w' A' cap' ([askM id line true hln]) ∧ (∀ g, inA A' g → w.heap.size ≤ g) ∧ ∃ Fp', CacheAt w' Fp' b ⟨id, n, ways, L, (some (line, true)), none⟩ ∧ Only Fp w w' ∧ ∀ g, Fp' g → Fp g ∨ w.heap.size ≤ g) := by
 obtain ⟨lb, FpL, pa, pg, FpA, FpG, hB, hL, hA, hG, hP⟩ := H
 dsimp only at hB hL hA hG
 have ap_FpL_b := hP.lb
 obtain ⟨hn1, hn2, hw1, hw2⟩ := hL.bd
 have gA_FpL : ∀ g, FpL g → Fp g ∨ w.heap.size ≤ g := fun g hg => .inl ((hP.foot g).2 (.inr (.inl hg)))
 have hF := Only.refl (Fp) w
 refine Zen 91 Try.func13 ?_
 refine Zsr ?_
 refine Za ?_
 refine Za ?_
 refine Znn ?_
 refine Zsq ?_
 refine Zsr ?_
 refine Zm ?_
 refine Zk cf43 (cnone_c hB) ?_
 rintro v w9 ⟨rfl, hw9⟩
 obtain rfl := hw9.symm
 refine Znn ?_
 refine Zcf ?_
 refine Zsk ?_
 refine Znx ?_
 refine Zsr ?_
 refine Zm ?_
 refine Zm ?_
 refine Zk (args := #[.pointer (some ⟨b, 0, none⟩), .int .u32 line]) cf34 (state_c line (by omega) hB hL ap_FpL_b) ?_
 rintro v w3 ⟨rfl, hN4⟩
 refine Za ?_
 refine Znn ?_
 refine Zsq ?_
 refine Zbl ?_
 refine Zsq ?_
 replace hA := hA.new hN4
 obtain ⟨rfl, hA0⟩ := hA
 replace hG := hG.new hN4
 obtain ⟨rfl, hG0⟩ := hG
 refine Zrg ?_
 refine Zm ?_
 refine Zn ?_
 refine Zf fo83_2 ?_
 replace hB := hB.new hN4
 refine Zd pl80 (hB.cell 2 rfl) ?_
 refine Zv (.bool false) (fun _ fr => x_pneq Try.underlying80 rfl (fr.ev rfl) rfl rfl) ?_
 refine Zm ?_
 refine Zm ?_
 refine Zn ?_
 refine Zf fo83_3 ?_
 refine Zd pl81 (hB.cell 3 rfl) ?_
 refine Zv (.bool false) (fun _ fr => x_pneq Try.underlying81 rfl (fr.ev rfl) rfl rfl) ?_
 refine Zm ?_
 refine Zs ?_
 refine Zs ?_
 refine Zs ?_
 refine Zs ?_
 refine Zs ?_
 refine Zs ?_
 refine Zs ?_
 refine Zs ?_
 refine Zs ?_
 refine Zpf ?_
 refine Zpf ?_
 refine Za ?_
 refine Znn ?_
 refine Zcf ?_
 refine Zsr ?_
 refine Zm ?_
 refine Zv (.bool false) (fun _ fr => x_neq rfl (fr.ev rfl) rfl (decide_eq_false hs)) ?_
 refine Zm ?_
 refine Zs ?_
 refine Zs ?_
 refine Zs ?_
 refine Zs ?_
 refine Zs ?_
 refine Zs ?_
 refine Zpf ?_
 refine Za ?_
 refine Znn ?_
 refine Zcf ?_
 refine Zsk ?_
 refine Zb ?_
 refine Znx ?_
 refine Zsq ?_
 refine Zsr ?_
 refine Zm ?_
 refine Zn ?_
 refine Zf fo83_1 ?_
 refine Zd pl79 (hB.cell 1 rfl) ?_
 refine Zm ?_
 refine Zm ?_
 replace hL := hL.new hN4
 refine Zk (args := #[.pointer (some ⟨lb, 0, none⟩), .int .u32 line, .int .i64 pick]) cf45 (victim_c line (by omega) pick hL) ?_
 rintro v w5 ⟨rfl, hN6⟩
 intro a fr
 rw [hv] at fr
 simp only [Option.getD_none, Option.isSome_none] at fr
 revert a
 refine Zm ?_
 refine Zt ?_
 refine Zt ?_
 refine Zna (z := zv1) (cs := lnE.arr ln0) (by kernel_rfl) fun b7 w8 hN9 B10 hb11 => ?_
 replace hB := hB.new hN6
 have ne_b_b7 : NE b b7 := NE.mk (Nat.lt_of_lt_of_le hB.lt hb11)
 replace hL := hL.new hN6
 have ap_FpL_b7 : ¬ FpL b7 := hL.apart hb11
 replace hF := (hF.trNew hN4).trNew hN6
 have g_b7 := Nat.le_trans hF.size hb11
 refine ZsS sz39 (lnE.all _) B10 (lnE.size _) (lnE.size _) fun w12 hO13 hBq => ?_
 clear hBq
 refine Za ?_
 refine Znn ?_
 refine Zsr ?_
 refine Zm ?_
 refine Znn ?_
 refine Zcf ?_
 refine Zsk ?_
 refine Znx ?_
 refine Zsr ?_
 refine Zm ?_
 refine Zm ?_
 refine Zm ?_
 refine Zv (.agg (#[.int .u32 line, .bool true])) (fun a fr => x_build (cells := #[.int .u32 line, .bool true]) rfl (by simp only [List.map_toArray, List.map_cons, List.map_nil, show a.eval (.tmp 77) = .int .u32 line from fr.ev rfl, show a.eval (.tmp 78) = .bool true from fr.ev rfl]; kernel_rfl)) ?_
 refine Znb (cs := #[.int .u32 line, .bool true]) fun b14 w15 hN16 B17 hb18 => ?_
 replace hB := (hB.new hN9).only hO13 ne_b_b7
 have ne_b_b14 : NE b b14 := NE.mk (Nat.lt_of_lt_of_le hB.lt hb18)
 replace hL := (hL.new hN9).only hO13 (ne1P ap_FpL_b7)
 have ap_FpL_b14 : ¬ FpL b14 := hL.apart hb18
 replace hF := (hF.trNew hN9).loc hO13 (.inr g_b7)
 have g_b14 := Nat.le_trans hF.size hb18
 refine Zn ?_
 refine Zf fo83_2 ?_
 replace hB := hB.new hN16
 refine Zs1 (cs' := #[.int .i64 id, .pointer (some ⟨lb, 0, none⟩), .pointer (some ⟨b14, 0, none⟩), .pointer none]) sz80 hB (show 2 < 4 by decide) rfl fun w19 hO20 hBq => ?_
 replace hB := hBq
 clear hBq
 refine Znn ?_
 refine Zsr ?_
 refine Za ?_
 refine Znn ?_
 refine Zsq ?_
 refine Zsr ?_
 refine Zm ?_
 refine Znn ?_
 refine Zct ?_
 refine Zrg ?_
 refine Za ?_
 refine Znn ?_
 refine Zsr ?_
 refine Zm ?_
 refine Zm ?_
 refine Zm ?_
 refine Zm ?_
 refine Zk (args := #[.pointer (some ⟨b, 0, none⟩), .int .i64 2, .int .u32 line]) cf47 (msg_c hB 2 line (by omega)) ?_
 rintro v w21 ⟨rfl, hN22⟩
 intro a fr
 refine fx_build1 (E := msgE) (p := (mkM 2 id 4 line)) elMsg (by decide) fr rfl rfl (by decide) rfl (fr.ev rfl) ?_
 clear fr a
 intro A23 w24 hN25 O26 hA27
 intro a fr
 refine fx_append (E := msgE) (l := []) (l' := [(mkM 2 id 4 line)]) elMsg fr rfl rfl (by decide) rfl (fr.ev rfl) (fr.ev rfl) (by first | rfl | (simp; done) | (simp; omega)) (by first | rfl | (simp; done) | (simp; omega)) Own.nil O26.view (by first | omega | (simp only [List.length_append, List.length_cons, List.length_nil, List.nil_append]; omega)) (by first | (unfold maxLen; done) | (unfold maxLen; first | omega | (simp; done) | (simp; omega))) ?_
 clear fr a
 intro A28 cap29 w30 O31 hO32 mv33
 replace hF := (((hF.trNew hN16).loc hO20 (.inl ((hP.foot b).2 (.inl rfl)))).trNew hN22).trNew hN25
 have gN_A28 := fun g (hg : inA A28 g) => (mv33 g hg).elim (fun h => absurd h (apart_none g)) (fun h => Nat.le_trans hF.size h)
 replace hO32 := only_none hO32
 refine Za ?_
 refine Za ?_
 refine Znn ?_
 refine Zrt ?_
 refine Zre rfl [_, _] ⟨rfl, rfl, trivial⟩ ?_
 have gi_b14 : Fp b14 ∨ w.heap.size ≤ b14 := .inr g_b14
 replace hL := ((((hL.new hN16).only hO20 (ne1P ap_FpL_b)).new hN22).new hN25).new hO32
 replace B17 := (((B17.only hO20 ne_b_b14.symm).new hN22).new hN25).new hO32
 replace hB := ((hB.new hN22).new hN25).new hO32
 replace hF := hF.trNew hO32
 exact ⟨_, rfl, A28, cap29, rfl, O31, gN_A28, (fun k => k = b ∨ FpL k ∨ (fun k => k = b14) k ∨ (fun _ => False) k), ⟨lb, FpL, _, _, (fun k => k = b14), (fun _ => False), hB, hL, ⟨b14, rfl, B17, fun _ => Iff.rfl, hln⟩, ⟨rfl, fun _ h => h⟩, ⟨ap_FpL_b, (fun e => (show ¬ b = b14 from ne_b_b14) e), (fun h => h), (fun k hk e => ap_FpL_b14 (e ▸ hk)), (fun _ _ h => h), (fun _ _ h => h), fun _ => Iff.rfl⟩⟩, hF, (fun g hg => hg.elim (fun e => by rw [e]; exact .inl ((hP.foot b).2 (.inl rfl))) fun h => h.elim (gA_FpL g) fun h => h.elim (fun e => by rw [e]; exact gi_b14) (fun h => h.elim))⟩
theorem ask_sw0n {w : World} {Fp : Nat → Prop} {b : Nat} {id : Int} {n : Nat} {ways : Int} {L : List Ln} (H : CacheAt w Fp b ⟨id, n, ways, L, none, none⟩) (line : Int) (hln : 0 ≤ line ∧ line < 4294967296) (pick : Int) (hs : ¬ stateOf L line ≠ 0) (vx : Ln) (hv : vicL n ways L line pick = some vx) (hx : vx.state = 1) : Calls Try.prog 13 #[.pointer (some ⟨b, 0, none⟩), .int .u32 line, .bool true, .int .i64 pick] w (Ret fun v w' => ∃ A' cap', v = .tuple #[.slice A' ([askM id line true hln]).length cap', .int .i64 0] ∧ Own msgE w' A' cap' ([askM id line true hln]) ∧ (∀ g, inA A' g → w.heap.size ≤ g) ∧ ∃ Fp', CacheAt w' Fp' b ⟨id, n, ways, dropL L vx.num, (some (line, true)), none⟩ ∧ Only Fp w w' ∧ ∀ g, Fp' g → Fp g ∨ w.heap.size ≤ g) := by
 obtain ⟨lb, FpL, pa, pg, FpA, FpG, hB, hL, hA, hG, hP⟩ := H
 dsimp only at hB hL hA hG
 have ap_FpL_b := hP.lb
 obtain ⟨hn1, hn2, hw1, hw2⟩ := hL.bd
 have gA_FpL : ∀ g, FpL g → Fp g ∨ w.heap.size ≤ g := fun g hg => .inl ((hP.foot g).2 (.inr (.inl hg)))
 have hF := Only.refl (Fp) w
 refine Zen 91 Try.func13 ?_
 refine Zsr ?_
 refine Za ?_
 refine Za ?_
 refine Znn ?_
 refine Zsq ?_
 refine Zsr ?_
 refine Zm ?_
 refine Zk cf43 (cnone_c hB) ?_
 rintro v w9 ⟨rfl, hw9⟩
 obtain rfl := hw9.symm
 refine Znn ?_
 refine Zcf ?_
 refine Zsk ?_
 refine Znx ?_
 refine Zsr ?_
 refine Zm ?_
 refine Zm ?_
 refine Zk (args := #[.pointer (some ⟨b, 0, none⟩), .int .u32 line]) cf34 (state_c line (by omega) hB hL ap_FpL_b) ?_
 rintro v w3 ⟨rfl, hN4⟩
 refine Za ?_
 refine Znn ?_
 refine Zsq ?_
 refine Zbl ?_
 refine Zsq ?_
 replace hA := hA.new hN4
 obtain ⟨rfl, hA0⟩ := hA
 replace hG := hG.new hN4
 obtain ⟨rfl, hG0⟩ := hG
 refine Zrg ?_
 refine Zm ?_
 refine Zn ?_
 refine Zf fo83_2 ?_
 replace hB := hB.new hN4
 refine Zd pl80 (hB.cell 2 rfl) ?_
 refine Zv (.bool false) (fun _ fr => x_pneq Try.underlying80 rfl (fr.ev rfl) rfl rfl) ?_
 refine Zm ?_
 refine Zm ?_
 refine Zn ?_
 refine Zf fo83_3 ?_
 refine Zd pl81 (hB.cell 3 rfl) ?_
 refine Zv (.bool false) (fun _ fr => x_pneq Try.underlying81 rfl (fr.ev rfl) rfl rfl) ?_
 refine Zm ?_
 refine Zs ?_
 refine Zs ?_
 refine Zs ?_
 refine Zs ?_
 refine Zs ?_
 refine Zs ?_
 refine Zs ?_
 refine Zs ?_
 refine Zs ?_
 refine Zpf ?_
 refine Zpf ?_
 refine Za ?_
 refine Znn ?_
 refine Zcf ?_
 refine Zsr ?_
 refine Zm ?_
 refine Zv (.bool false) (fun _ fr => x_neq rfl (fr.ev rfl) rfl (decide_eq_false hs)) ?_
 refine Zm ?_
 refine Zs ?_
 refine Zs ?_
 refine Zs ?_
 refine Zs ?_
 refine Zs ?_
 refine Zs ?_
 refine Zpf ?_
 refine Za ?_
 refine Znn ?_
 refine Zcf ?_
 refine Zsk ?_
 refine Zb ?_
 refine Znx ?_
 refine Zsq ?_
 refine Zsr ?_
 refine Zm ?_
 refine Zn ?_
 refine Zf fo83_1 ?_
 refine Zd pl79 (hB.cell 1 rfl) ?_
 refine Zm ?_
 refine Zm ?_
 replace hL := hL.new hN4
 refine Zk (args := #[.pointer (some ⟨lb, 0, none⟩), .int .u32 line, .int .i64 pick]) cf45 (victim_c line (by omega) pick hL) ?_
 rintro v w5 ⟨rfl, hN6⟩
 intro a fr
 rw [hv] at fr
 simp only [Option.getD_some, Option.isSome_some] at fr
 revert a
 refine Zm ?_
 refine Zt ?_
 refine Zt ?_
 refine Zna (z := zv1) (cs := lnE.arr ln0) (by kernel_rfl) fun b7 w8 hN9 B10 hb11 => ?_
 replace hB := hB.new hN6
 have ne_b_b7 : NE b b7 := NE.mk (Nat.lt_of_lt_of_le hB.lt hb11)
 replace hL := hL.new hN6
 have ap_FpL_b7 : ¬ FpL b7 := hL.apart hb11
 replace hF := (hF.trNew hN4).trNew hN6
 have g_b7 := Nat.le_trans hF.size hb11
 refine ZsS sz39 (lnE.all _) B10 (lnE.size _) (lnE.size _) fun w12 hO13 hBq => ?_
 replace B10 := hBq
 clear hBq
 refine Za ?_
 refine Znn ?_
 refine Zsr ?_
 refine Zm ?_
 refine Znn ?_
 refine Zct ?_
 refine Zsr ?_
 refine Zm ?_
 refine ZE lnE ag39 (B10.rangeE lnE) ?_
 replace hB := (hB.new hN9).only hO13 ne_b_b7
 replace hL := (hL.new hN9).only hO13 (ne1P ap_FpL_b7)
 refine Zk cf46 (out_s hB hL ap_FpL_b vx hx) ?_
 rintro v w18 ⟨rfl, hB14, Fp15, H16, mv17, hN19⟩
 have ap_Fp15_b : ¬ Fp15 b := moved_apartP mv17 ap_FpL_b hB.lt
 replace hF := (hF.trNew hN9).loc hO13 (.inr g_b7)
 have gA_Fp15 := gA_movedP hF mv17 gA_FpL
 clear hL
 replace hB := hB14
 clear hB14
 refine Zm ?_
 refine Zt ?_
 refine Zt ?_
 refine Za ?_
 refine Za ?_
 refine Znn ?_
 refine Zsq ?_
 refine Zsr ?_
 refine Zm ?_
 refine Zv (.bool false) (fun _ fr => x_not rfl (fr.ev rfl) rfl) ?_
 refine Znn ?_
 refine Zcf ?_
 refine Zsk ?_
 refine Znx ?_
 refine Zrg ?_
 refine Zm ?_
 refine Za ?_
 refine Znn ?_
 refine Zsr ?_
 refine Zm ?_
 refine Zm ?_
 refine Zm ?_
 refine Zv (.agg (#[.int .u32 line, .bool true])) (fun a fr => x_build (cells := #[.int .u32 line, .bool true]) rfl (by simp only [List.map_toArray, List.map_cons, List.map_nil, show a.eval (.tmp 77) = .int .u32 line from fr.ev rfl, show a.eval (.tmp 78) = .bool true from fr.ev rfl]; kernel_rfl)) ?_
 refine Znb (cs := #[.int .u32 line, .bool true]) fun b20 w21 hN22 B23 hb24 => ?_
 have ne_b_b20 : NE b b20 := NE.mk (Nat.lt_of_lt_of_le hB.lt hb24)
 have ap_Fp15_b20 : ¬ Fp15 b20 := H16.apart hb24
 replace hF := hF.locS hN19 (fun i => (fun h => h.elim (fun e => by rw [e]; exact (.inl ((hP.foot b).2 (.inl rfl)))) (fun h => gA_FpL i h)))
 have g_b20 := Nat.le_trans hF.size hb24
 refine Zn ?_
 refine Zf fo83_2 ?_
 replace hB := hB.new hN22
 refine Zs1 (cs' := #[.int .i64 id, .pointer (some ⟨lb, 0, none⟩), .pointer (some ⟨b20, 0, none⟩), .pointer none]) sz80 hB (show 2 < 4 by decide) rfl fun w25 hO26 hBq => ?_
 replace hB := hBq
 clear hBq
 refine Znn ?_
 refine Zsr ?_
 refine Za ?_
 refine Znn ?_
 refine Zsq ?_
 refine Zsr ?_
 refine Zm ?_
 refine Znn ?_
 refine Zct ?_
 refine Zrg ?_
 refine Za ?_
 refine Znn ?_
 refine Zsr ?_
 refine Zm ?_
 refine Zm ?_
 refine Zm ?_
 refine Zm ?_
 refine Zk (args := #[.pointer (some ⟨b, 0, none⟩), .int .i64 2, .int .u32 line]) cf47 (msg_c hB 2 line (by omega)) ?_
 rintro v w27 ⟨rfl, hN28⟩
 intro a fr
 refine fx_build1 (E := msgE) (p := (mkM 2 id 4 line)) elMsg (by decide) fr rfl rfl (by decide) rfl (fr.ev rfl) ?_
 clear fr a
 intro A29 w30 hN31 O32 hA33
 intro a fr
 refine fx_append (E := msgE) (l := []) (l' := [(mkM 2 id 4 line)]) elMsg fr rfl rfl (by decide) rfl (fr.ev rfl) (fr.ev rfl) (by first | rfl | (simp; done) | (simp; omega)) (by first | rfl | (simp; done) | (simp; omega)) Own.nil O32.view (by first | omega | (simp only [List.length_append, List.length_cons, List.length_nil, List.nil_append]; omega)) (by first | (unfold maxLen; done) | (unfold maxLen; first | omega | (simp; done) | (simp; omega))) ?_
 clear fr a
 intro A34 cap35 w36 O37 hO38 mv39
 replace hF := (((hF.trNew hN22).loc hO26 (.inl ((hP.foot b).2 (.inl rfl)))).trNew hN28).trNew hN31
 have gN_A34 := fun g (hg : inA A34 g) => (mv39 g hg).elim (fun h => absurd h (apart_none g)) (fun h => Nat.le_trans hF.size h)
 replace hO38 := only_none hO38
 refine Za ?_
 refine Za ?_
 refine Znn ?_
 refine Zrt ?_
 refine Zre rfl [_, _] ⟨rfl, rfl, trivial⟩ ?_
 have gi_b20 : Fp b20 ∨ w.heap.size ≤ b20 := .inr g_b20
 replace H16 := ((((H16.new hN22).only hO26 (ne1P ap_Fp15_b)).new hN28).new hN31).new hO38
 replace B23 := (((B23.only hO26 ne_b_b20.symm).new hN28).new hN31).new hO38
 replace hB := ((hB.new hN28).new hN31).new hO38
 replace hF := hF.trNew hO38
 exact ⟨_, rfl, A34, cap35, rfl, O37, gN_A34, (fun k => k = b ∨ Fp15 k ∨ (fun k => k = b20) k ∨ (fun _ => False) k), ⟨lb, Fp15, _, _, (fun k => k = b20), (fun _ => False), hB, H16, ⟨b20, rfl, B23, fun _ => Iff.rfl, hln⟩, ⟨rfl, fun _ h => h⟩, ⟨ap_Fp15_b, (fun e => (show ¬ b = b20 from ne_b_b20) e), (fun h => h), (fun k hk e => ap_Fp15_b20 (e ▸ hk)), (fun _ _ h => h), (fun _ _ h => h), fun _ => Iff.rfl⟩⟩, hF, (fun g hg => hg.elim (fun e => by rw [e]; exact .inl ((hP.foot b).2 (.inl rfl))) fun h => h.elim (gA_Fp15 g) fun h => h.elim (fun e => by rw [e]; exact gi_b20) (fun h => h.elim))⟩
theorem ask_pw0n {w : World} {Fp : Nat → Prop} {b : Nat} {id : Int} {n : Nat} {ways : Int} {L : List Ln} (H : CacheAt w Fp b ⟨id, n, ways, L, none, none⟩) (line : Int) (hln : 0 ≤ line ∧ line < 4294967296) (pick : Int) (hs : ¬ stateOf L line ≠ 0) (vx : Ln) (hv : vicL n ways L line pick = some vx) (hx : ¬ vx.state = 1) : Calls Try.prog 13 #[.pointer (some ⟨b, 0, none⟩), .int .u32 line, .bool true, .int .i64 pick] w (Ret fun v w' => ∃ A' cap', v = .tuple #[.slice A' ([putM id vx] ++ [askM id line true hln]).length cap', .int .i64 0] ∧ Own msgE w' A' cap' ([putM id vx] ++ [askM id line true hln]) ∧ (∀ g, inA A' g → w.heap.size ≤ g) ∧ ∃ Fp', CacheAt w' Fp' b ⟨id, n, ways, dropL L vx.num, (some (line, true)), (some vx)⟩ ∧ Only Fp w w' ∧ ∀ g, Fp' g → Fp g ∨ w.heap.size ≤ g) := by
 obtain ⟨lb, FpL, pa, pg, FpA, FpG, hB, hL, hA, hG, hP⟩ := H
 dsimp only at hB hL hA hG
 have ap_FpL_b := hP.lb
 obtain ⟨hn1, hn2, hw1, hw2⟩ := hL.bd
 have gA_FpL : ∀ g, FpL g → Fp g ∨ w.heap.size ≤ g := fun g hg => .inl ((hP.foot g).2 (.inr (.inl hg)))
 have hF := Only.refl (Fp) w
 refine Zen 91 Try.func13 ?_
 refine Zsr ?_
 refine Za ?_
 refine Za ?_
 refine Znn ?_
 refine Zsq ?_
 refine Zsr ?_
 refine Zm ?_
 refine Zk cf43 (cnone_c hB) ?_
 rintro v w9 ⟨rfl, hw9⟩
 obtain rfl := hw9.symm
 refine Znn ?_
 refine Zcf ?_
 refine Zsk ?_
 refine Znx ?_
 refine Zsr ?_
 refine Zm ?_
 refine Zm ?_
 refine Zk (args := #[.pointer (some ⟨b, 0, none⟩), .int .u32 line]) cf34 (state_c line (by omega) hB hL ap_FpL_b) ?_
 rintro v w3 ⟨rfl, hN4⟩
 refine Za ?_
 refine Znn ?_
 refine Zsq ?_
 refine Zbl ?_
 refine Zsq ?_
 replace hA := hA.new hN4
 obtain ⟨rfl, hA0⟩ := hA
 replace hG := hG.new hN4
 obtain ⟨rfl, hG0⟩ := hG
 refine Zrg ?_
 refine Zm ?_
 refine Zn ?_
 refine Zf fo83_2 ?_
 replace hB := hB.new hN4
 refine Zd pl80 (hB.cell 2 rfl) ?_
 refine Zv (.bool false) (fun _ fr => x_pneq Try.underlying80 rfl (fr.ev rfl) rfl rfl) ?_
 refine Zm ?_
 refine Zm ?_
 refine Zn ?_
 refine Zf fo83_3 ?_
 refine Zd pl81 (hB.cell 3 rfl) ?_
 refine Zv (.bool false) (fun _ fr => x_pneq Try.underlying81 rfl (fr.ev rfl) rfl rfl) ?_
 refine Zm ?_
 refine Zs ?_
 refine Zs ?_
 refine Zs ?_
 refine Zs ?_
 refine Zs ?_
 refine Zs ?_
 refine Zs ?_
 refine Zs ?_
 refine Zs ?_
 refine Zpf ?_
 refine Zpf ?_
 refine Za ?_
 refine Znn ?_
 refine Zcf ?_
 refine Zsr ?_
 refine Zm ?_
 refine Zv (.bool false) (fun _ fr => x_neq rfl (fr.ev rfl) rfl (decide_eq_false hs)) ?_
 refine Zm ?_
 refine Zs ?_
 refine Zs ?_
 refine Zs ?_
 refine Zs ?_
 refine Zs ?_
 refine Zs ?_
 refine Zpf ?_
 refine Za ?_
 refine Znn ?_
 refine Zcf ?_
 refine Zsk ?_
 refine Zb ?_
 refine Znx ?_
 refine Zsq ?_
 refine Zsr ?_
 refine Zm ?_
 refine Zn ?_
 refine Zf fo83_1 ?_
 refine Zd pl79 (hB.cell 1 rfl) ?_
 refine Zm ?_
 refine Zm ?_
 replace hL := hL.new hN4
 refine Zk (args := #[.pointer (some ⟨lb, 0, none⟩), .int .u32 line, .int .i64 pick]) cf45 (victim_c line (by omega) pick hL) ?_
 rintro v w5 ⟨rfl, hN6⟩
 intro a fr
 rw [hv] at fr
 simp only [Option.getD_some, Option.isSome_some] at fr
 revert a
 refine Zm ?_
 refine Zt ?_
 refine Zt ?_
 refine Zna (z := zv1) (cs := lnE.arr ln0) (by kernel_rfl) fun b7 w8 hN9 B10 hb11 => ?_
 replace hB := hB.new hN6
 have ne_b_b7 : NE b b7 := NE.mk (Nat.lt_of_lt_of_le hB.lt hb11)
 replace hL := hL.new hN6
 have ap_FpL_b7 : ¬ FpL b7 := hL.apart hb11
 replace hF := (hF.trNew hN4).trNew hN6
 have g_b7 := Nat.le_trans hF.size hb11
 refine ZsS sz39 (lnE.all _) B10 (lnE.size _) (lnE.size _) fun w12 hO13 hBq => ?_
 replace B10 := hBq
 clear hBq
 refine Za ?_
 refine Znn ?_
 refine Zsr ?_
 refine Zm ?_
 refine Znn ?_
 refine Zct ?_
 refine Zsr ?_
 refine Zm ?_
 refine ZE lnE ag39 (B10.rangeE lnE) ?_
 replace hB := (hB.new hN9).only hO13 ne_b_b7
 replace hL := (hL.new hN9).only hO13 (ne1P ap_FpL_b7)
 refine Zk cf46 (out_n hB hL ap_FpL_b vx hx) ?_
 rintro v w25 ⟨A18, cap19, rfl, O20, hA21, b22, B23, hB14, hb24, Fp15, H16, mv17, ap_Fp15_b22, ap_A18_b22, ap2_Fp15_A18, hN26⟩
 have ap_Fp15_b : ¬ Fp15 b := moved_apartP mv17 ap_FpL_b hB.lt
 replace hF := (hF.trNew hN9).loc hO13 (.inr g_b7)
 have gA_Fp15 := gA_movedP hF mv17 gA_FpL
 have ne_b_b22 : NE b b22 := NE.mk (Nat.lt_of_lt_of_le hB.lt hb24)
 have g_b22 := Nat.le_trans hF.size hb24
 have ap_A18_b : Apart A18 b := new_apart hA21 hB.lt
 have gA_A18 := gA_new hF hA21
 have gN_A18 := fun g (hg : inA A18 g) => Nat.le_trans hF.size (hA21 g hg)
 clear hL
 replace hB := hB14
 clear hB14
 have gi_b22 : Fp b22 ∨ w.heap.size ≤ b22 := .inr g_b22
 refine Zm ?_
 refine Zt ?_
 refine Zt ?_
 refine Za ?_
 refine Za ?_
 refine Znn ?_
 refine Zsq ?_
 refine Zsr ?_
 refine Zm ?_
 refine Zv (.bool false) (fun _ fr => x_not rfl (fr.ev rfl) rfl) ?_
 refine Znn ?_
 refine Zcf ?_
 refine Zsk ?_
 refine Znx ?_
 refine Zrg ?_
 refine Zm ?_
 refine Za ?_
 refine Znn ?_
 refine Zsr ?_
 refine Zm ?_
 refine Zm ?_
 refine Zm ?_
 refine Zv (.agg (#[.int .u32 line, .bool true])) (fun a fr => x_build (cells := #[.int .u32 line, .bool true]) rfl (by simp only [List.map_toArray, List.map_cons, List.map_nil, show a.eval (.tmp 77) = .int .u32 line from fr.ev rfl, show a.eval (.tmp 78) = .bool true from fr.ev rfl]; kernel_rfl)) ?_
 refine Znb (cs := #[.int .u32 line, .bool true]) fun b27 w28 hN29 B30 hb31 => ?_
 have ne_b_b27 : NE b b27 := NE.mk (Nat.lt_of_lt_of_le hB.lt hb31)
 have ap_A18_b27 : Apart A18 b27 := O20.apart hb31
 have ne_b22_b27 : NE b22 b27 := NE.mk (Nat.lt_of_lt_of_le B23.lt hb31)
 have ap_Fp15_b27 : ¬ Fp15 b27 := H16.apart hb31
 replace hF := hF.locS hN26 (fun i => (fun h => h.elim (fun e => by rw [e]; exact (.inl ((hP.foot b).2 (.inl rfl)))) (fun h => gA_FpL i h)))
 have g_b27 := Nat.le_trans hF.size hb31
 refine Zn ?_
 refine Zf fo83_2 ?_
 replace hB := hB.new hN29
 refine Zs1 (cs' := #[.int .i64 id, .pointer (some ⟨lb, 0, none⟩), .pointer (some ⟨b27, 0, none⟩), .pointer (some ⟨b22, 0, none⟩)]) sz80 hB (show 2 < 4 by decide) rfl fun w32 hO33 hBq => ?_
 replace hB := hBq
 clear hBq
 refine Znn ?_
 refine Zsr ?_
 refine Za ?_
 refine Znn ?_
 refine Zsq ?_
 refine Zsr ?_
 refine Zm ?_
 refine Znn ?_
 refine Zct ?_
 refine Zrg ?_
 refine Za ?_
 refine Znn ?_
 refine Zsr ?_
 refine Zm ?_
 refine Zm ?_
 refine Zm ?_
 refine Zm ?_
 refine Zk (args := #[.pointer (some ⟨b, 0, none⟩), .int .i64 2, .int .u32 line]) cf47 (msg_c hB 2 line (by omega)) ?_
 rintro v w34 ⟨rfl, hN35⟩
 intro a fr
 refine fx_build1 (E := msgE) (p := (mkM 2 id 4 line)) elMsg (by decide) fr rfl rfl (by decide) rfl (fr.ev rfl) ?_
 clear fr a
 intro A36 w37 hN38 O39 hA40
 intro a fr
 replace O20 := (((O20.new hN29).only hO33 (Apart.ne1 ap_A18_b)).new hN35).new hN38
 refine fx_append (E := msgE) (l := [putM id vx]) (l' := [(mkM 2 id 4 line)]) elMsg fr rfl rfl (by decide) rfl (fr.ev rfl) (fr.ev rfl) (by first | rfl | (simp; done) | (simp; omega)) (by first | rfl | (simp; done) | (simp; omega)) O20 O39.view (by first | omega | (simp only [List.length_append, List.length_cons, List.length_nil, List.nil_append]; omega)) (by first | (unfold maxLen; done) | (unfold maxLen; first | omega | (simp; done) | (simp; omega))) ?_
 clear fr a
 intro A41 cap42 w43 O44 hO45 mv46
 replace hF := (((hF.trNew hN29).loc hO33 (.inl ((hP.foot b).2 (.inl rfl)))).trNew hN35).trNew hN38
 have gN_A41 := fun g (hg : inA A41 g) => (mv46 g hg).elim (gN_A18 g) (fun h => Nat.le_trans hF.size h)
 clear O20
 refine Za ?_
 refine Za ?_
 refine Znn ?_
 refine Zrt ?_
 refine Zre rfl [_, _] ⟨rfl, rfl, trivial⟩ ?_
 have gi_b27 : Fp b27 ∨ w.heap.size ≤ b27 := .inr g_b27
 replace B23 := ((((B23.new hN29).only hO33 ne_b_b22.symm).new hN35).new hN38).only hO45 ap_A18_b22
 replace H16 := ((((H16.new hN29).only hO33 (ne1P ap_Fp15_b)).new hN35).new hN38).only hO45 (fun g h1 h2 => ap2_Fp15_A18 g h1 h2)
 replace B30 := (((B30.only hO33 ne_b_b27.symm).new hN35).new hN38).only hO45 ap_A18_b27
 replace hB := ((hB.new hN35).new hN38).only hO45 ap_A18_b
 replace hF := hF.locA hO45 gA_A18
 exact ⟨_, rfl, A41, cap42, rfl, O44, gN_A41, (fun k => k = b ∨ Fp15 k ∨ (fun k => k = b27) k ∨ (fun k => k = b22) k), ⟨lb, Fp15, _, _, (fun k => k = b27), (fun k => k = b22), hB, H16, ⟨b27, rfl, B30, fun _ => Iff.rfl, hln⟩, ⟨b22, rfl, B23, fun _ => Iff.rfl⟩, ⟨ap_Fp15_b, (fun e => (show ¬ b = b27 from ne_b_b27) e), (fun e => (show ¬ b = b22 from ne_b_b22) e), (fun k hk e => ap_Fp15_b27 (e ▸ hk)), (fun k hk e => ap_Fp15_b22 (e ▸ hk)), (fun k e e2 => (show ¬ b27 = b22 from ne_b22_b27.symm) (e.symm.trans e2)), fun _ => Iff.rfl⟩⟩, hF, (fun g hg => hg.elim (fun e => by rw [e]; exact .inl ((hP.foot b).2 (.inl rfl))) fun h => h.elim (gA_Fp15 g) fun h => h.elim (fun e => by rw [e]; exact gi_b27) (fun e => by rw [e]; exact gi_b22))⟩
theorem ask_nw1n {w : World} {Fp : Nat → Prop} {b : Nat} {id : Int} {n : Nat} {ways : Int} {L : List Ln} (H : CacheAt w Fp b ⟨id, n, ways, L, none, none⟩) (line : Int) (hln : 0 ≤ line ∧ line < 4294967296) (pick : Int) (hs : stateOf L line ≠ 0) (hw : writesB (stateOf L line) = false) (hv : vicL n ways L line pick = none) : Calls Try.prog 13 #[.pointer (some ⟨b, 0, none⟩), .int .u32 line, .bool true, .int .i64 pick] w (Ret fun v w' => ∃ A' cap', v = .tuple #[.slice A' ([askM id line true hln]).length cap', .int .i64 0] ∧ Own msgE w' A' cap' ([askM id line true hln]) ∧ (∀ g, inA A' g → w.heap.size ≤ g) ∧ ∃ Fp', CacheAt w' Fp' b ⟨id, n, ways, L, (some (line, true)), none⟩ ∧ Only Fp w w' ∧ ∀ g, Fp' g → Fp g ∨ w.heap.size ≤ g) := by
 obtain ⟨lb, FpL, pa, pg, FpA, FpG, hB, hL, hA, hG, hP⟩ := H
 dsimp only at hB hL hA hG
 have ap_FpL_b := hP.lb
 obtain ⟨hn1, hn2, hw1, hw2⟩ := hL.bd
 have gA_FpL : ∀ g, FpL g → Fp g ∨ w.heap.size ≤ g := fun g hg => .inl ((hP.foot g).2 (.inr (.inl hg)))
 have hF := Only.refl (Fp) w
 refine Zen 91 Try.func13 ?_
 refine Zsr ?_
 refine Za ?_
 refine Za ?_
 refine Znn ?_
 refine Zsq ?_
 refine Zsr ?_
 refine Zm ?_
 refine Zk cf43 (cnone_c hB) ?_
 rintro v w9 ⟨rfl, hw9⟩
 obtain rfl := hw9.symm
 refine Znn ?_
 refine Zcf ?_
 refine Zsk ?_
 refine Znx ?_
 refine Zsr ?_
 refine Zm ?_
 refine Zm ?_
 refine Zk (args := #[.pointer (some ⟨b, 0, none⟩), .int .u32 line]) cf34 (state_c line (by omega) hB hL ap_FpL_b) ?_
 rintro v w3 ⟨rfl, hN4⟩
 refine Za ?_
 refine Znn ?_
 refine Zsq ?_
 refine Zbl ?_
 refine Zsq ?_
 replace hA := hA.new hN4
 obtain ⟨rfl, hA0⟩ := hA
 replace hG := hG.new hN4
 obtain ⟨rfl, hG0⟩ := hG
 refine Zrg ?_
 refine Zm ?_
 refine Zn ?_
 refine Zf fo83_2 ?_
 replace hB := hB.new hN4
 refine Zd pl80 (hB.cell 2 rfl) ?_
 refine Zv (.bool false) (fun _ fr => x_pneq Try.underlying80 rfl (fr.ev rfl) rfl rfl) ?_
 refine Zm ?_
 refine Zm ?_
 refine Zn ?_
 refine Zf fo83_3 ?_
 refine Zd pl81 (hB.cell 3 rfl) ?_
 refine Zv (.bool false) (fun _ fr => x_pneq Try.underlying81 rfl (fr.ev rfl) rfl rfl) ?_
 refine Zm ?_
 refine Zs ?_
 refine Zs ?_
 refine Zs ?_
 refine Zs ?_
 refine Zs ?_
 refine Zs ?_
 refine Zs ?_
 refine Zs ?_
 refine Zs ?_
 refine Zpf ?_
 refine Zpf ?_
 refine Za ?_
 refine Znn ?_
 refine Zcf ?_
 refine Zsr ?_
 refine Zm ?_
 refine Zv (.bool true) (fun _ fr => x_neq rfl (fr.ev rfl) rfl (decide_eq_true hs)) ?_
 refine Zm ?_
 refine Zm ?_
 refine Zv (.bool false) (fun _ fr => x_not rfl (fr.ev rfl) rfl) ?_
 refine Zm ?_
 refine Zm ?_
 refine Zk cf44 (writes_c (stateOf L line) _) ?_
 rintro v _ ⟨rfl, hw9⟩
 obtain rfl := hw9.symm
 intro a fr
 rw [hw] at fr
 revert a
 refine Zpf ?_
 refine Zpt ?_
 refine Za ?_
 refine Znn ?_
 refine Zcf ?_
 refine Zsk ?_
 refine Zb ?_
 refine Znx ?_
 refine Zsq ?_
 refine Zsr ?_
 refine Zm ?_
 refine Zn ?_
 refine Zf fo83_1 ?_
 refine Zd pl79 (hB.cell 1 rfl) ?_
 refine Zm ?_
 refine Zm ?_
 replace hL := hL.new hN4
 refine Zk (args := #[.pointer (some ⟨lb, 0, none⟩), .int .u32 line, .int .i64 pick]) cf45 (victim_c line (by omega) pick hL) ?_
 rintro v w7 ⟨rfl, hN8⟩
 intro a fr
 rw [hv] at fr
 simp only [Option.getD_none, Option.isSome_none] at fr
 revert a
 refine Zm ?_
 refine Zt ?_
 refine Zt ?_
 refine Zna (z := zv1) (cs := lnE.arr ln0) (by kernel_rfl) fun b9 w10 hN11 B12 hb13 => ?_
 replace hB := hB.new hN8
 have ne_b_b9 : NE b b9 := NE.mk (Nat.lt_of_lt_of_le hB.lt hb13)
 replace hL := hL.new hN8
 have ap_FpL_b9 : ¬ FpL b9 := hL.apart hb13
 replace hF := (hF.trNew hN4).trNew hN8
 have g_b9 := Nat.le_trans hF.size hb13
 refine ZsS sz39 (lnE.all _) B12 (lnE.size _) (lnE.size _) fun w14 hO15 hBq => ?_
 clear hBq
 refine Za ?_
 refine Znn ?_
 refine Zsr ?_
 refine Zm ?_
 refine Znn ?_
 refine Zcf ?_
 refine Zsk ?_
 refine Znx ?_
 refine Zsr ?_
 refine Zm ?_
 refine Zm ?_
 refine Zm ?_
 refine Zv (.agg (#[.int .u32 line, .bool true])) (fun a fr => x_build (cells := #[.int .u32 line, .bool true]) rfl (by simp only [List.map_toArray, List.map_cons, List.map_nil, show a.eval (.tmp 77) = .int .u32 line from fr.ev rfl, show a.eval (.tmp 78) = .bool true from fr.ev rfl]; kernel_rfl)) ?_
 refine Znb (cs := #[.int .u32 line, .bool true]) fun b16 w17 hN18 B19 hb20 => ?_
 replace hB := (hB.new hN11).only hO15 ne_b_b9
 have ne_b_b16 : NE b b16 := NE.mk (Nat.lt_of_lt_of_le hB.lt hb20)
 replace hL := (hL.new hN11).only hO15 (ne1P ap_FpL_b9)
 have ap_FpL_b16 : ¬ FpL b16 := hL.apart hb20
 replace hF := (hF.trNew hN11).loc hO15 (.inr g_b9)
 have g_b16 := Nat.le_trans hF.size hb20
 refine Zn ?_
 refine Zf fo83_2 ?_
 replace hB := hB.new hN18
 refine Zs1 (cs' := #[.int .i64 id, .pointer (some ⟨lb, 0, none⟩), .pointer (some ⟨b16, 0, none⟩), .pointer none]) sz80 hB (show 2 < 4 by decide) rfl fun w21 hO22 hBq => ?_
 replace hB := hBq
 clear hBq
 refine Znn ?_
 refine Zsr ?_
 refine Za ?_
 refine Znn ?_
 refine Zsq ?_
 refine Zsr ?_
 refine Zm ?_
 refine Znn ?_
 refine Zct ?_
 refine Zrg ?_
 refine Za ?_
 refine Znn ?_
 refine Zsr ?_
 refine Zm ?_
 refine Zm ?_
 refine Zm ?_
 refine Zm ?_
 refine Zk (args := #[.pointer (some ⟨b, 0, none⟩), .int .i64 2, .int .u32 line]) cf47 (msg_c hB 2 line (by omega)) ?_
 rintro v w23 ⟨rfl, hN24⟩
 intro a fr
 refine fx_build1 (E := msgE) (p := (mkM 2 id 4 line)) elMsg (by decide) fr rfl rfl (by decide) rfl (fr.ev rfl) ?_
 clear fr a
 intro A25 w26 hN27 O28 hA29
 intro a fr
 refine fx_append (E := msgE) (l := []) (l' := [(mkM 2 id 4 line)]) elMsg fr rfl rfl (by decide) rfl (fr.ev rfl) (fr.ev rfl) (by first | rfl | (simp; done) | (simp; omega)) (by first | rfl | (simp; done) | (simp; omega)) Own.nil O28.view (by first | omega | (simp only [List.length_append, List.length_cons, List.length_nil, List.nil_append]; omega)) (by first | (unfold maxLen; done) | (unfold maxLen; first | omega | (simp; done) | (simp; omega))) ?_
 clear fr a
 intro A30 cap31 w32 O33 hO34 mv35
 replace hF := (((hF.trNew hN18).loc hO22 (.inl ((hP.foot b).2 (.inl rfl)))).trNew hN24).trNew hN27
 have gN_A30 := fun g (hg : inA A30 g) => (mv35 g hg).elim (fun h => absurd h (apart_none g)) (fun h => Nat.le_trans hF.size h)
 replace hO34 := only_none hO34
 refine Za ?_
 refine Za ?_
 refine Znn ?_
 refine Zrt ?_
 refine Zre rfl [_, _] ⟨rfl, rfl, trivial⟩ ?_
 have gi_b16 : Fp b16 ∨ w.heap.size ≤ b16 := .inr g_b16
 replace hL := ((((hL.new hN18).only hO22 (ne1P ap_FpL_b)).new hN24).new hN27).new hO34
 replace B19 := (((B19.only hO22 ne_b_b16.symm).new hN24).new hN27).new hO34
 replace hB := ((hB.new hN24).new hN27).new hO34
 replace hF := hF.trNew hO34
 exact ⟨_, rfl, A30, cap31, rfl, O33, gN_A30, (fun k => k = b ∨ FpL k ∨ (fun k => k = b16) k ∨ (fun _ => False) k), ⟨lb, FpL, _, _, (fun k => k = b16), (fun _ => False), hB, hL, ⟨b16, rfl, B19, fun _ => Iff.rfl, hln⟩, ⟨rfl, fun _ h => h⟩, ⟨ap_FpL_b, (fun e => (show ¬ b = b16 from ne_b_b16) e), (fun h => h), (fun k hk e => ap_FpL_b16 (e ▸ hk)), (fun _ _ h => h), (fun _ _ h => h), fun _ => Iff.rfl⟩⟩, hF, (fun g hg => hg.elim (fun e => by rw [e]; exact .inl ((hP.foot b).2 (.inl rfl))) fun h => h.elim (gA_FpL g) fun h => h.elim (fun e => by rw [e]; exact gi_b16) (fun h => h.elim))⟩
theorem ask_sw1n {w : World} {Fp : Nat → Prop} {b : Nat} {id : Int} {n : Nat} {ways : Int} {L : List Ln} (H : CacheAt w Fp b ⟨id, n, ways, L, none, none⟩) (line : Int) (hln : 0 ≤ line ∧ line < 4294967296) (pick : Int) (hs : stateOf L line ≠ 0) (hw : writesB (stateOf L line) = false) (vx : Ln) (hv : vicL n ways L line pick = some vx) (hx : vx.state = 1) : Calls Try.prog 13 #[.pointer (some ⟨b, 0, none⟩), .int .u32 line, .bool true, .int .i64 pick] w (Ret fun v w' => ∃ A' cap', v = .tuple #[.slice A' ([askM id line true hln]).length cap', .int .i64 0] ∧ Own msgE w' A' cap' ([askM id line true hln]) ∧ (∀ g, inA A' g → w.heap.size ≤ g) ∧ ∃ Fp', CacheAt w' Fp' b ⟨id, n, ways, dropL L vx.num, (some (line, true)), none⟩ ∧ Only Fp w w' ∧ ∀ g, Fp' g → Fp g ∨ w.heap.size ≤ g) := by
 obtain ⟨lb, FpL, pa, pg, FpA, FpG, hB, hL, hA, hG, hP⟩ := H
 dsimp only at hB hL hA hG
 have ap_FpL_b := hP.lb
 obtain ⟨hn1, hn2, hw1, hw2⟩ := hL.bd
 have gA_FpL : ∀ g, FpL g → Fp g ∨ w.heap.size ≤ g := fun g hg => .inl ((hP.foot g).2 (.inr (.inl hg)))
 have hF := Only.refl (Fp) w
 refine Zen 91 Try.func13 ?_
 refine Zsr ?_
 refine Za ?_
 refine Za ?_
 refine Znn ?_
 refine Zsq ?_
 refine Zsr ?_
 refine Zm ?_
 refine Zk cf43 (cnone_c hB) ?_
 rintro v w9 ⟨rfl, hw9⟩
 obtain rfl := hw9.symm
 refine Znn ?_
 refine Zcf ?_
 refine Zsk ?_
 refine Znx ?_
 refine Zsr ?_
 refine Zm ?_
 refine Zm ?_
 refine Zk (args := #[.pointer (some ⟨b, 0, none⟩), .int .u32 line]) cf34 (state_c line (by omega) hB hL ap_FpL_b) ?_
 rintro v w3 ⟨rfl, hN4⟩
 refine Za ?_
 refine Znn ?_
 refine Zsq ?_
 refine Zbl ?_
 refine Zsq ?_
 replace hA := hA.new hN4
 obtain ⟨rfl, hA0⟩ := hA
 replace hG := hG.new hN4
 obtain ⟨rfl, hG0⟩ := hG
 refine Zrg ?_
 refine Zm ?_
 refine Zn ?_
 refine Zf fo83_2 ?_
 replace hB := hB.new hN4
 refine Zd pl80 (hB.cell 2 rfl) ?_
 refine Zv (.bool false) (fun _ fr => x_pneq Try.underlying80 rfl (fr.ev rfl) rfl rfl) ?_
 refine Zm ?_
 refine Zm ?_
 refine Zn ?_
 refine Zf fo83_3 ?_
 refine Zd pl81 (hB.cell 3 rfl) ?_
 refine Zv (.bool false) (fun _ fr => x_pneq Try.underlying81 rfl (fr.ev rfl) rfl rfl) ?_
 refine Zm ?_
 refine Zs ?_
 refine Zs ?_
 refine Zs ?_
 refine Zs ?_
 refine Zs ?_
 refine Zs ?_
 refine Zs ?_
 refine Zs ?_
 refine Zs ?_
 refine Zpf ?_
 refine Zpf ?_
 refine Za ?_
 refine Znn ?_
 refine Zcf ?_
 refine Zsr ?_
 refine Zm ?_
 refine Zv (.bool true) (fun _ fr => x_neq rfl (fr.ev rfl) rfl (decide_eq_true hs)) ?_
 refine Zm ?_
 refine Zm ?_
 refine Zv (.bool false) (fun _ fr => x_not rfl (fr.ev rfl) rfl) ?_
 refine Zm ?_
 refine Zm ?_
 refine Zk cf44 (writes_c (stateOf L line) _) ?_
 rintro v _ ⟨rfl, hw9⟩
 obtain rfl := hw9.symm
 intro a fr
 rw [hw] at fr
 revert a
 refine Zpf ?_
 refine Zpt ?_
 refine Za ?_
 refine Znn ?_
 refine Zcf ?_
 refine Zsk ?_
 refine Zb ?_
 refine Znx ?_
 refine Zsq ?_
 refine Zsr ?_
 refine Zm ?_
 refine Zn ?_
 refine Zf fo83_1 ?_
 refine Zd pl79 (hB.cell 1 rfl) ?_
 refine Zm ?_
 refine Zm ?_
 replace hL := hL.new hN4
 refine Zk (args := #[.pointer (some ⟨lb, 0, none⟩), .int .u32 line, .int .i64 pick]) cf45 (victim_c line (by omega) pick hL) ?_
 rintro v w7 ⟨rfl, hN8⟩
 intro a fr
 rw [hv] at fr
 simp only [Option.getD_some, Option.isSome_some] at fr
 revert a
 refine Zm ?_
 refine Zt ?_
 refine Zt ?_
 refine Zna (z := zv1) (cs := lnE.arr ln0) (by kernel_rfl) fun b9 w10 hN11 B12 hb13 => ?_
 replace hB := hB.new hN8
 have ne_b_b9 : NE b b9 := NE.mk (Nat.lt_of_lt_of_le hB.lt hb13)
 replace hL := hL.new hN8
 have ap_FpL_b9 : ¬ FpL b9 := hL.apart hb13
 replace hF := (hF.trNew hN4).trNew hN8
 have g_b9 := Nat.le_trans hF.size hb13
 refine ZsS sz39 (lnE.all _) B12 (lnE.size _) (lnE.size _) fun w14 hO15 hBq => ?_
 replace B12 := hBq
 clear hBq
 refine Za ?_
 refine Znn ?_
 refine Zsr ?_
 refine Zm ?_
 refine Znn ?_
 refine Zct ?_
 refine Zsr ?_
 refine Zm ?_
 refine ZE lnE ag39 (B12.rangeE lnE) ?_
 replace hB := (hB.new hN11).only hO15 ne_b_b9
 replace hL := (hL.new hN11).only hO15 (ne1P ap_FpL_b9)
 refine Zk cf46 (out_s hB hL ap_FpL_b vx hx) ?_
 rintro v w20 ⟨rfl, hB16, Fp17, H18, mv19, hN21⟩
 have ap_Fp17_b : ¬ Fp17 b := moved_apartP mv19 ap_FpL_b hB.lt
 replace hF := (hF.trNew hN11).loc hO15 (.inr g_b9)
 have gA_Fp17 := gA_movedP hF mv19 gA_FpL
 clear hL
 replace hB := hB16
 clear hB16
 refine Zm ?_
 refine Zt ?_
 refine Zt ?_
 refine Za ?_
 refine Za ?_
 refine Znn ?_
 refine Zsq ?_
 refine Zsr ?_
 refine Zm ?_
 refine Zv (.bool false) (fun _ fr => x_not rfl (fr.ev rfl) rfl) ?_
 refine Znn ?_
 refine Zcf ?_
 refine Zsk ?_
 refine Znx ?_
 refine Zrg ?_
 refine Zm ?_
 refine Za ?_
 refine Znn ?_
 refine Zsr ?_
 refine Zm ?_
 refine Zm ?_
 refine Zm ?_
 refine Zv (.agg (#[.int .u32 line, .bool true])) (fun a fr => x_build (cells := #[.int .u32 line, .bool true]) rfl (by simp only [List.map_toArray, List.map_cons, List.map_nil, show a.eval (.tmp 77) = .int .u32 line from fr.ev rfl, show a.eval (.tmp 78) = .bool true from fr.ev rfl]; kernel_rfl)) ?_
 refine Znb (cs := #[.int .u32 line, .bool true]) fun b22 w23 hN24 B25 hb26 => ?_
 have ne_b_b22 : NE b b22 := NE.mk (Nat.lt_of_lt_of_le hB.lt hb26)
 have ap_Fp17_b22 : ¬ Fp17 b22 := H18.apart hb26
 replace hF := hF.locS hN21 (fun i => (fun h => h.elim (fun e => by rw [e]; exact (.inl ((hP.foot b).2 (.inl rfl)))) (fun h => gA_FpL i h)))
 have g_b22 := Nat.le_trans hF.size hb26
 refine Zn ?_
 refine Zf fo83_2 ?_
 replace hB := hB.new hN24
 refine Zs1 (cs' := #[.int .i64 id, .pointer (some ⟨lb, 0, none⟩), .pointer (some ⟨b22, 0, none⟩), .pointer none]) sz80 hB (show 2 < 4 by decide) rfl fun w27 hO28 hBq => ?_
 replace hB := hBq
 clear hBq
 refine Znn ?_
 refine Zsr ?_
 refine Za ?_
 refine Znn ?_
 refine Zsq ?_
 refine Zsr ?_
 refine Zm ?_
 refine Znn ?_
 refine Zct ?_
 refine Zrg ?_
 refine Za ?_
 refine Znn ?_
 refine Zsr ?_
 refine Zm ?_
 refine Zm ?_
 refine Zm ?_
 refine Zm ?_
 refine Zk (args := #[.pointer (some ⟨b, 0, none⟩), .int .i64 2, .int .u32 line]) cf47 (msg_c hB 2 line (by omega)) ?_
 rintro v w29 ⟨rfl, hN30⟩
 intro a fr
 refine fx_build1 (E := msgE) (p := (mkM 2 id 4 line)) elMsg (by decide) fr rfl rfl (by decide) rfl (fr.ev rfl) ?_
 clear fr a
 intro A31 w32 hN33 O34 hA35
 intro a fr
 refine fx_append (E := msgE) (l := []) (l' := [(mkM 2 id 4 line)]) elMsg fr rfl rfl (by decide) rfl (fr.ev rfl) (fr.ev rfl) (by first | rfl | (simp; done) | (simp; omega)) (by first | rfl | (simp; done) | (simp; omega)) Own.nil O34.view (by first | omega | (simp only [List.length_append, List.length_cons, List.length_nil, List.nil_append]; omega)) (by first | (unfold maxLen; done) | (unfold maxLen; first | omega | (simp; done) | (simp; omega))) ?_
 clear fr a
 intro A36 cap37 w38 O39 hO40 mv41
 replace hF := (((hF.trNew hN24).loc hO28 (.inl ((hP.foot b).2 (.inl rfl)))).trNew hN30).trNew hN33
 have gN_A36 := fun g (hg : inA A36 g) => (mv41 g hg).elim (fun h => absurd h (apart_none g)) (fun h => Nat.le_trans hF.size h)
 replace hO40 := only_none hO40
 refine Za ?_
 refine Za ?_
 refine Znn ?_
 refine Zrt ?_
 refine Zre rfl [_, _] ⟨rfl, rfl, trivial⟩ ?_
 have gi_b22 : Fp b22 ∨ w.heap.size ≤ b22 := .inr g_b22
 replace H18 := ((((H18.new hN24).only hO28 (ne1P ap_Fp17_b)).new hN30).new hN33).new hO40
 replace B25 := (((B25.only hO28 ne_b_b22.symm).new hN30).new hN33).new hO40
 replace hB := ((hB.new hN30).new hN33).new hO40
 replace hF := hF.trNew hO40
 exact ⟨_, rfl, A36, cap37, rfl, O39, gN_A36, (fun k => k = b ∨ Fp17 k ∨ (fun k => k = b22) k ∨ (fun _ => False) k), ⟨lb, Fp17, _, _, (fun k => k = b22), (fun _ => False), hB, H18, ⟨b22, rfl, B25, fun _ => Iff.rfl, hln⟩, ⟨rfl, fun _ h => h⟩, ⟨ap_Fp17_b, (fun e => (show ¬ b = b22 from ne_b_b22) e), (fun h => h), (fun k hk e => ap_Fp17_b22 (e ▸ hk)), (fun _ _ h => h), (fun _ _ h => h), fun _ => Iff.rfl⟩⟩, hF, (fun g hg => hg.elim (fun e => by rw [e]; exact .inl ((hP.foot b).2 (.inl rfl))) fun h => h.elim (gA_Fp17 g) fun h => h.elim (fun e => by rw [e]; exact gi_b22) (fun h => h.elim))⟩
theorem ask_pw1n {w : World} {Fp : Nat → Prop} {b : Nat} {id : Int} {n : Nat} {ways : Int} {L : List Ln} (H : CacheAt w Fp b ⟨id, n, ways, L, none, none⟩) (line : Int) (hln : 0 ≤ line ∧ line < 4294967296) (pick : Int) (hs : stateOf L line ≠ 0) (hw : writesB (stateOf L line) = false) (vx : Ln) (hv : vicL n ways L line pick = some vx) (hx : ¬ vx.state = 1) : Calls Try.prog 13 #[.pointer (some ⟨b, 0, none⟩), .int .u32 line, .bool true, .int .i64 pick] w (Ret fun v w' => ∃ A' cap', v = .tuple #[.slice A' ([putM id vx] ++ [askM id line true hln]).length cap', .int .i64 0] ∧ Own msgE w' A' cap' ([putM id vx] ++ [askM id line true hln]) ∧ (∀ g, inA A' g → w.heap.size ≤ g) ∧ ∃ Fp', CacheAt w' Fp' b ⟨id, n, ways, dropL L vx.num, (some (line, true)), (some vx)⟩ ∧ Only Fp w w' ∧ ∀ g, Fp' g → Fp g ∨ w.heap.size ≤ g) := by
 obtain ⟨lb, FpL, pa, pg, FpA, FpG, hB, hL, hA, hG, hP⟩ := H
 dsimp only at hB hL hA hG
 have ap_FpL_b := hP.lb
 obtain ⟨hn1, hn2, hw1, hw2⟩ := hL.bd
 have gA_FpL : ∀ g, FpL g → Fp g ∨ w.heap.size ≤ g := fun g hg => .inl ((hP.foot g).2 (.inr (.inl hg)))
 have hF := Only.refl (Fp) w
 refine Zen 91 Try.func13 ?_
 refine Zsr ?_
 refine Za ?_
 refine Za ?_
 refine Znn ?_
 refine Zsq ?_
 refine Zsr ?_
 refine Zm ?_
 refine Zk cf43 (cnone_c hB) ?_
 rintro v w9 ⟨rfl, hw9⟩
 obtain rfl := hw9.symm
 refine Znn ?_
 refine Zcf ?_
 refine Zsk ?_
 refine Znx ?_
 refine Zsr ?_
 refine Zm ?_
 refine Zm ?_
 refine Zk (args := #[.pointer (some ⟨b, 0, none⟩), .int .u32 line]) cf34 (state_c line (by omega) hB hL ap_FpL_b) ?_
 rintro v w3 ⟨rfl, hN4⟩
 refine Za ?_
 refine Znn ?_
 refine Zsq ?_
 refine Zbl ?_
 refine Zsq ?_
 replace hA := hA.new hN4
 obtain ⟨rfl, hA0⟩ := hA
 replace hG := hG.new hN4
 obtain ⟨rfl, hG0⟩ := hG
 refine Zrg ?_
 refine Zm ?_
 refine Zn ?_
 refine Zf fo83_2 ?_
 replace hB := hB.new hN4
 refine Zd pl80 (hB.cell 2 rfl) ?_
 refine Zv (.bool false) (fun _ fr => x_pneq Try.underlying80 rfl (fr.ev rfl) rfl rfl) ?_
 refine Zm ?_
 refine Zm ?_
 refine Zn ?_
 refine Zf fo83_3 ?_
 refine Zd pl81 (hB.cell 3 rfl) ?_
 refine Zv (.bool false) (fun _ fr => x_pneq Try.underlying81 rfl (fr.ev rfl) rfl rfl) ?_
 refine Zm ?_
 refine Zs ?_
 refine Zs ?_
 refine Zs ?_
 refine Zs ?_
 refine Zs ?_
 refine Zs ?_
 refine Zs ?_
 refine Zs ?_
 refine Zs ?_
 refine Zpf ?_
 refine Zpf ?_
 refine Za ?_
 refine Znn ?_
 refine Zcf ?_
 refine Zsr ?_
 refine Zm ?_
 refine Zv (.bool true) (fun _ fr => x_neq rfl (fr.ev rfl) rfl (decide_eq_true hs)) ?_
 refine Zm ?_
 refine Zm ?_
 refine Zv (.bool false) (fun _ fr => x_not rfl (fr.ev rfl) rfl) ?_
 refine Zm ?_
 refine Zm ?_
 refine Zk cf44 (writes_c (stateOf L line) _) ?_
 rintro v _ ⟨rfl, hw9⟩
 obtain rfl := hw9.symm
 intro a fr
 rw [hw] at fr
 revert a
 refine Zpf ?_
 refine Zpt ?_
 refine Za ?_
 refine Znn ?_
 refine Zcf ?_
 refine Zsk ?_
 refine Zb ?_
 refine Znx ?_
 refine Zsq ?_
 refine Zsr ?_
 refine Zm ?_
 refine Zn ?_
 refine Zf fo83_1 ?_
 refine Zd pl79 (hB.cell 1 rfl) ?_
 refine Zm ?_
 refine Zm ?_
 replace hL := hL.new hN4
 refine Zk (args := #[.pointer (some ⟨lb, 0, none⟩), .int .u32 line, .int .i64 pick]) cf45 (victim_c line (by omega) pick hL) ?_
 rintro v w7 ⟨rfl, hN8⟩
 intro a fr
 rw [hv] at fr
 simp only [Option.getD_some, Option.isSome_some] at fr
 revert a
 refine Zm ?_
 refine Zt ?_
 refine Zt ?_
 refine Zna (z := zv1) (cs := lnE.arr ln0) (by kernel_rfl) fun b9 w10 hN11 B12 hb13 => ?_
 replace hB := hB.new hN8
 have ne_b_b9 : NE b b9 := NE.mk (Nat.lt_of_lt_of_le hB.lt hb13)
 replace hL := hL.new hN8
 have ap_FpL_b9 : ¬ FpL b9 := hL.apart hb13
 replace hF := (hF.trNew hN4).trNew hN8
 have g_b9 := Nat.le_trans hF.size hb13
 refine ZsS sz39 (lnE.all _) B12 (lnE.size _) (lnE.size _) fun w14 hO15 hBq => ?_
 replace B12 := hBq
 clear hBq
 refine Za ?_
 refine Znn ?_
 refine Zsr ?_
 refine Zm ?_
 refine Znn ?_
 refine Zct ?_
 refine Zsr ?_
 refine Zm ?_
 refine ZE lnE ag39 (B12.rangeE lnE) ?_
 replace hB := (hB.new hN11).only hO15 ne_b_b9
 replace hL := (hL.new hN11).only hO15 (ne1P ap_FpL_b9)
 refine Zk cf46 (out_n hB hL ap_FpL_b vx hx) ?_
 rintro v w27 ⟨A20, cap21, rfl, O22, hA23, b24, B25, hB16, hb26, Fp17, H18, mv19, ap_Fp17_b24, ap_A20_b24, ap2_Fp17_A20, hN28⟩
 have ap_Fp17_b : ¬ Fp17 b := moved_apartP mv19 ap_FpL_b hB.lt
 replace hF := (hF.trNew hN11).loc hO15 (.inr g_b9)
 have gA_Fp17 := gA_movedP hF mv19 gA_FpL
 have ne_b_b24 : NE b b24 := NE.mk (Nat.lt_of_lt_of_le hB.lt hb26)
 have g_b24 := Nat.le_trans hF.size hb26
 have ap_A20_b : Apart A20 b := new_apart hA23 hB.lt
 have gA_A20 := gA_new hF hA23
 have gN_A20 := fun g (hg : inA A20 g) => Nat.le_trans hF.size (hA23 g hg)
 clear hL
 replace hB := hB16
 clear hB16
 have gi_b24 : Fp b24 ∨ w.heap.size ≤ b24 := .inr g_b24
 refine Zm ?_
 refine Zt ?_
 refine Zt ?_
 refine Za ?_
 refine Za ?_
 refine Znn ?_
 refine Zsq ?_
 refine Zsr ?_
 refine Zm ?_
 refine Zv (.bool false) (fun _ fr => x_not rfl (fr.ev rfl) rfl) ?_
 refine Znn ?_
 refine Zcf ?_
 refine Zsk ?_
 refine Znx ?_
 refine Zrg ?_
 refine Zm ?_
 refine Za ?_
 refine Znn ?_
 refine Zsr ?_
 refine Zm ?_
 refine Zm ?_
 refine Zm ?_
 refine Zv (.agg (#[.int .u32 line, .bool true])) (fun a fr => x_build (cells := #[.int .u32 line, .bool true]) rfl (by simp only [List.map_toArray, List.map_cons, List.map_nil, show a.eval (.tmp 77) = .int .u32 line from fr.ev rfl, show a.eval (.tmp 78) = .bool true from fr.ev rfl]; kernel_rfl)) ?_
 refine Znb (cs := #[.int .u32 line, .bool true]) fun b29 w30 hN31 B32 hb33 => ?_
 have ne_b_b29 : NE b b29 := NE.mk (Nat.lt_of_lt_of_le hB.lt hb33)
 have ap_A20_b29 : Apart A20 b29 := O22.apart hb33
 have ne_b24_b29 : NE b24 b29 := NE.mk (Nat.lt_of_lt_of_le B25.lt hb33)
 have ap_Fp17_b29 : ¬ Fp17 b29 := H18.apart hb33
 replace hF := hF.locS hN28 (fun i => (fun h => h.elim (fun e => by rw [e]; exact (.inl ((hP.foot b).2 (.inl rfl)))) (fun h => gA_FpL i h)))
 have g_b29 := Nat.le_trans hF.size hb33
 refine Zn ?_
 refine Zf fo83_2 ?_
 replace hB := hB.new hN31
 refine Zs1 (cs' := #[.int .i64 id, .pointer (some ⟨lb, 0, none⟩), .pointer (some ⟨b29, 0, none⟩), .pointer (some ⟨b24, 0, none⟩)]) sz80 hB (show 2 < 4 by decide) rfl fun w34 hO35 hBq => ?_
 replace hB := hBq
 clear hBq
 refine Znn ?_
 refine Zsr ?_
 refine Za ?_
 refine Znn ?_
 refine Zsq ?_
 refine Zsr ?_
 refine Zm ?_
 refine Znn ?_
 refine Zct ?_
 refine Zrg ?_
 refine Za ?_
 refine Znn ?_
 refine Zsr ?_
 refine Zm ?_
 refine Zm ?_
 refine Zm ?_
 refine Zm ?_
 refine Zk (args := #[.pointer (some ⟨b, 0, none⟩), .int .i64 2, .int .u32 line]) cf47 (msg_c hB 2 line (by omega)) ?_
 rintro v w36 ⟨rfl, hN37⟩
 intro a fr
 refine fx_build1 (E := msgE) (p := (mkM 2 id 4 line)) elMsg (by decide) fr rfl rfl (by decide) rfl (fr.ev rfl) ?_
 clear fr a
 intro A38 w39 hN40 O41 hA42
 intro a fr
 replace O22 := (((O22.new hN31).only hO35 (Apart.ne1 ap_A20_b)).new hN37).new hN40
 refine fx_append (E := msgE) (l := [putM id vx]) (l' := [(mkM 2 id 4 line)]) elMsg fr rfl rfl (by decide) rfl (fr.ev rfl) (fr.ev rfl) (by first | rfl | (simp; done) | (simp; omega)) (by first | rfl | (simp; done) | (simp; omega)) O22 O41.view (by first | omega | (simp only [List.length_append, List.length_cons, List.length_nil, List.nil_append]; omega)) (by first | (unfold maxLen; done) | (unfold maxLen; first | omega | (simp; done) | (simp; omega))) ?_
 clear fr a
 intro A43 cap44 w45 O46 hO47 mv48
 replace hF := (((hF.trNew hN31).loc hO35 (.inl ((hP.foot b).2 (.inl rfl)))).trNew hN37).trNew hN40
 have gN_A43 := fun g (hg : inA A43 g) => (mv48 g hg).elim (gN_A20 g) (fun h => Nat.le_trans hF.size h)
 clear O22
 refine Za ?_
 refine Za ?_
 refine Znn ?_
 refine Zrt ?_
 refine Zre rfl [_, _] ⟨rfl, rfl, trivial⟩ ?_
 have gi_b29 : Fp b29 ∨ w.heap.size ≤ b29 := .inr g_b29
 replace B25 := ((((B25.new hN31).only hO35 ne_b_b24.symm).new hN37).new hN40).only hO47 ap_A20_b24
 replace H18 := ((((H18.new hN31).only hO35 (ne1P ap_Fp17_b)).new hN37).new hN40).only hO47 (fun g h1 h2 => ap2_Fp17_A20 g h1 h2)
 replace B32 := (((B32.only hO35 ne_b_b29.symm).new hN37).new hN40).only hO47 ap_A20_b29
 replace hB := ((hB.new hN37).new hN40).only hO47 ap_A20_b
 replace hF := hF.locA hO47 gA_A20
 exact ⟨_, rfl, A43, cap44, rfl, O46, gN_A43, (fun k => k = b ∨ Fp17 k ∨ (fun k => k = b29) k ∨ (fun k => k = b24) k), ⟨lb, Fp17, _, _, (fun k => k = b29), (fun k => k = b24), hB, H18, ⟨b29, rfl, B32, fun _ => Iff.rfl, hln⟩, ⟨b24, rfl, B25, fun _ => Iff.rfl⟩, ⟨ap_Fp17_b, (fun e => (show ¬ b = b29 from ne_b_b29) e), (fun e => (show ¬ b = b24 from ne_b_b24) e), (fun k hk e => ap_Fp17_b29 (e ▸ hk)), (fun k hk e => ap_Fp17_b24 (e ▸ hk)), (fun k e e2 => (show ¬ b29 = b24 from ne_b24_b29.symm) (e.symm.trans e2)), fun _ => Iff.rfl⟩⟩, hF, (fun g hg => hg.elim (fun e => by rw [e]; exact .inl ((hP.foot b).2 (.inl rfl))) fun h => h.elim (gA_Fp17 g) fun h => h.elim (fun e => by rw [e]; exact gi_b29) (fun e => by rw [e]; exact gi_b24))⟩
theorem ask_tws {w : World} {Fp : Nat → Prop} {b : Nat} {id : Int} {n : Nat} {ways : Int} {L : List Ln} {gx : Ln} (H : CacheAt w Fp b ⟨id, n, ways, L, none, (some gx)⟩) (line : Int) (hln : 0 ≤ line ∧ line < 4294967296) (pick : Int) (hg : ¬ gx.num = line) (hs : stateOf L line ≠ 0) (hw : writesB (stateOf L line) = true)  : Calls Try.prog 13 #[.pointer (some ⟨b, 0, none⟩), .int .u32 line, .bool true, .int .i64 pick] w (Ret fun v w' => v = .tuple #[.slice none 0 0, .int .i64 231] ∧ New w w') := by
 obtain ⟨lb, FpL, pa, pg, FpA, FpG, hB, hL, hA, hG, hP⟩ := H
 dsimp only at hB hL hA hG
 have ap_FpL_b := hP.lb
 obtain ⟨hn1, hn2, hw1, hw2⟩ := hL.bd
 have gA_FpG := fun g (hg : FpG g) => (Or.inl trivial : True ∨ w.heap.size ≤ g)
 have hF := Only.refl (fun _ => False) w
 refine Zen 91 Try.func13 ?_
 refine Zsr ?_
 refine Za ?_
 refine Za ?_
 refine Znn ?_
 refine Zsq ?_
 refine Zsr ?_
 refine Zm ?_
 refine Zk cf43 (cnone_c hB) ?_
 rintro v w9 ⟨rfl, hw9⟩
 obtain rfl := hw9.symm
 refine Znn ?_
 refine Zcf ?_
 refine Zsk ?_
 refine Znx ?_
 refine Zsr ?_
 refine Zm ?_
 refine Zm ?_
 refine Zk (args := #[.pointer (some ⟨b, 0, none⟩), .int .u32 line]) cf34 (state_c line (by omega) hB hL ap_FpL_b) ?_
 rintro v w3 ⟨rfl, hN4⟩
 refine Za ?_
 refine Znn ?_
 refine Zsq ?_
 refine Zbl ?_
 refine Zsq ?_
 replace hA := hA.new hN4
 obtain ⟨rfl, hA0⟩ := hA
 replace hG := hG.new hN4
 obtain ⟨bg, rfl, hGB, hGF⟩ := hG
 have gi_bg := gA_FpG bg ((hGF bg).2 rfl)
 refine Zrg ?_
 refine Zm ?_
 refine Zn ?_
 refine Zf fo83_2 ?_
 replace hB := hB.new hN4
 refine Zd pl80 (hB.cell 2 rfl) ?_
 refine Zv (.bool false) (fun _ fr => x_pneq Try.underlying80 rfl (fr.ev rfl) rfl rfl) ?_
 refine Zm ?_
 refine Zm ?_
 refine Zn ?_
 refine Zf fo83_3 ?_
 refine Zd pl81 (hB.cell 3 rfl) ?_
 refine Zv (.bool true) (fun _ fr => x_pneq Try.underlying81 rfl (fr.ev rfl) rfl rfl) ?_
 refine Zm ?_
 refine Zm ?_
 refine Zn ?_
 refine Zf fo83_3 ?_
 refine Zd pl81 (hB.cell 3 rfl) ?_
 refine Zn ?_
 refine Zf fo39_0 ?_
 refine Zd (v := .int .u32 gx.num) pl32 (hGB.cell 0 rfl) ?_
 refine Zm ?_
 refine Zv (.bool false) (fun _ fr => x_eql rfl (fr.ev rfl) (fr.ev rfl) (decide_eq_false hg)) ?_
 refine Zpt ?_
 refine Zpf ?_
 refine Za ?_
 refine Znn ?_
 refine Zcf ?_
 refine Zsr ?_
 refine Zm ?_
 refine Zv (.bool true) (fun _ fr => x_neq rfl (fr.ev rfl) rfl (decide_eq_true hs)) ?_
 refine Zm ?_
 refine Zm ?_
 refine Zv (.bool false) (fun _ fr => x_not rfl (fr.ev rfl) rfl) ?_
 refine Zm ?_
 refine Zm ?_
 refine Zk cf44 (writes_c (stateOf L line) _) ?_
 rintro v _ ⟨rfl, hw9⟩
 obtain rfl := hw9.symm
 intro a fr
 rw [hw] at fr
 revert a
 refine Zpf ?_
 refine Zpt ?_
 refine Za ?_
 refine Znn ?_
 refine Zct ?_
 refine Zsr ?_
 refine Za ?_
 refine Za ?_
 refine Znn ?_
 refine Zrt ?_
 refine Zr2 ?_
 refine Zr1 ?_
 refine Zre rfl [_, _] ⟨rfl, rfl, trivial⟩ ?_
 replace hF := hF.trNew hN4
 exact ⟨_, rfl, rfl, hF⟩
theorem ask_nw0s {w : World} {Fp : Nat → Prop} {b : Nat} {id : Int} {n : Nat} {ways : Int} {L : List Ln} {gx : Ln} (H : CacheAt w Fp b ⟨id, n, ways, L, none, (some gx)⟩) (line : Int) (hln : 0 ≤ line ∧ line < 4294967296) (pick : Int) (hg : ¬ gx.num = line) (hs : ¬ stateOf L line ≠ 0) (hv : vicL n ways L line pick = none) : Calls Try.prog 13 #[.pointer (some ⟨b, 0, none⟩), .int .u32 line, .bool true, .int .i64 pick] w (Ret fun v w' => ∃ A' cap', v = .tuple #[.slice A' ([askM id line true hln]).length cap', .int .i64 0] ∧ Own msgE w' A' cap' ([askM id line true hln]) ∧ (∀ g, inA A' g → w.heap.size ≤ g) ∧ ∃ Fp', CacheAt w' Fp' b ⟨id, n, ways, L, (some (line, true)), (some gx)⟩ ∧ Only Fp w w' ∧ ∀ g, Fp' g → Fp g ∨ w.heap.size ≤ g) := by
 obtain ⟨lb, FpL, pa, pg, FpA, FpG, hB, hL, hA, hG, hP⟩ := H
 dsimp only at hB hL hA hG
 have ap_FpL_b := hP.lb
 have ap_FpG_b := hP.gb
 have ap2_FpL_FpG := hP.lg
 obtain ⟨hn1, hn2, hw1, hw2⟩ := hL.bd
 have gA_FpL : ∀ g, FpL g → Fp g ∨ w.heap.size ≤ g := fun g hg => .inl ((hP.foot g).2 (.inr (.inl hg)))
 have gA_FpG : ∀ g, FpG g → Fp g ∨ w.heap.size ≤ g := fun g hg => .inl ((hP.foot g).2 (.inr (.inr (.inr hg))))
 have hF := Only.refl (Fp) w
 refine Zen 91 Try.func13 ?_
 refine Zsr ?_
 refine Za ?_
 refine Za ?_
 refine Znn ?_
 refine Zsq ?_
 refine Zsr ?_
 refine Zm ?_
 refine Zk cf43 (cnone_c hB) ?_
 rintro v w9 ⟨rfl, hw9⟩
 obtain rfl := hw9.symm
 refine Znn ?_
 refine Zcf ?_
 refine Zsk ?_
 refine Znx ?_
 refine Zsr ?_
 refine Zm ?_
 refine Zm ?_
 refine Zk (args := #[.pointer (some ⟨b, 0, none⟩), .int .u32 line]) cf34 (state_c line (by omega) hB hL ap_FpL_b) ?_
 rintro v w3 ⟨rfl, hN4⟩
 refine Za ?_
 refine Znn ?_
 refine Zsq ?_
 refine Zbl ?_
 refine Zsq ?_
 replace hA := hA.new hN4
 obtain ⟨rfl, hA0⟩ := hA
 replace hG := hG.new hN4
 obtain ⟨bg, rfl, hGB, hGF⟩ := hG
 have ne_bg_b : NE bg b := fun e => ap_FpG_b (e ▸ (hGF bg).2 rfl)
 have ap_FpL_bg : ¬ FpL bg := fun h => ap2_FpL_FpG bg h ((hGF bg).2 rfl)
 have gi_bg := gA_FpG bg ((hGF bg).2 rfl)
 refine Zrg ?_
 refine Zm ?_
 refine Zn ?_
 refine Zf fo83_2 ?_
 replace hB := hB.new hN4
 refine Zd pl80 (hB.cell 2 rfl) ?_
 refine Zv (.bool false) (fun _ fr => x_pneq Try.underlying80 rfl (fr.ev rfl) rfl rfl) ?_
 refine Zm ?_
 refine Zm ?_
 refine Zn ?_
 refine Zf fo83_3 ?_
 refine Zd pl81 (hB.cell 3 rfl) ?_
 refine Zv (.bool true) (fun _ fr => x_pneq Try.underlying81 rfl (fr.ev rfl) rfl rfl) ?_
 refine Zm ?_
 refine Zm ?_
 refine Zn ?_
 refine Zf fo83_3 ?_
 refine Zd pl81 (hB.cell 3 rfl) ?_
 refine Zn ?_
 refine Zf fo39_0 ?_
 refine Zd (v := .int .u32 gx.num) pl32 (hGB.cell 0 rfl) ?_
 refine Zm ?_
 refine Zv (.bool false) (fun _ fr => x_eql rfl (fr.ev rfl) (fr.ev rfl) (decide_eq_false hg)) ?_
 refine Zpt ?_
 refine Zpf ?_
 refine Za ?_
 refine Znn ?_
 refine Zcf ?_
 refine Zsr ?_
 refine Zm ?_
 refine Zv (.bool false) (fun _ fr => x_neq rfl (fr.ev rfl) rfl (decide_eq_false hs)) ?_
 refine Zm ?_
 refine Zs ?_
 refine Zs ?_
 refine Zs ?_
 refine Zs ?_
 refine Zs ?_
 refine Zs ?_
 refine Zpf ?_
 refine Za ?_
 refine Znn ?_
 refine Zcf ?_
 refine Zsk ?_
 refine Zb ?_
 refine Znx ?_
 refine Zsq ?_
 refine Zsr ?_
 refine Zm ?_
 refine Zn ?_
 refine Zf fo83_1 ?_
 refine Zd pl79 (hB.cell 1 rfl) ?_
 refine Zm ?_
 refine Zm ?_
 replace hL := hL.new hN4
 refine Zk (args := #[.pointer (some ⟨lb, 0, none⟩), .int .u32 line, .int .i64 pick]) cf45 (victim_c line (by omega) pick hL) ?_
 rintro v w5 ⟨rfl, hN6⟩
 intro a fr
 rw [hv] at fr
 simp only [Option.getD_none, Option.isSome_none] at fr
 revert a
 refine Zm ?_
 refine Zt ?_
 refine Zt ?_
 refine Zna (z := zv1) (cs := lnE.arr ln0) (by kernel_rfl) fun b7 w8 hN9 B10 hb11 => ?_
 replace hB := hB.new hN6
 have ne_b_b7 : NE b b7 := NE.mk (Nat.lt_of_lt_of_le hB.lt hb11)
 replace hL := hL.new hN6
 have ap_FpL_b7 : ¬ FpL b7 := hL.apart hb11
 replace hGB := hGB.new hN6
 have ne_bg_b7 : NE bg b7 := NE.mk (Nat.lt_of_lt_of_le hGB.lt hb11)
 replace hF := (hF.trNew hN4).trNew hN6
 have g_b7 := Nat.le_trans hF.size hb11
 refine ZsS sz39 (lnE.all _) B10 (lnE.size _) (lnE.size _) fun w12 hO13 hBq => ?_
 clear hBq
 refine Za ?_
 refine Znn ?_
 refine Zsr ?_
 refine Zm ?_
 refine Znn ?_
 refine Zcf ?_
 refine Zsk ?_
 refine Znx ?_
 refine Zsr ?_
 refine Zm ?_
 refine Zm ?_
 refine Zm ?_
 refine Zv (.agg (#[.int .u32 line, .bool true])) (fun a fr => x_build (cells := #[.int .u32 line, .bool true]) rfl (by simp only [List.map_toArray, List.map_cons, List.map_nil, show a.eval (.tmp 77) = .int .u32 line from fr.ev rfl, show a.eval (.tmp 78) = .bool true from fr.ev rfl]; kernel_rfl)) ?_
 refine Znb (cs := #[.int .u32 line, .bool true]) fun b14 w15 hN16 B17 hb18 => ?_
 replace hB := (hB.new hN9).only hO13 ne_b_b7
 have ne_b_b14 : NE b b14 := NE.mk (Nat.lt_of_lt_of_le hB.lt hb18)
 replace hL := (hL.new hN9).only hO13 (ne1P ap_FpL_b7)
 have ap_FpL_b14 : ¬ FpL b14 := hL.apart hb18
 replace hGB := (hGB.new hN9).only hO13 ne_bg_b7
 have ne_bg_b14 : NE bg b14 := NE.mk (Nat.lt_of_lt_of_le hGB.lt hb18)
 replace hF := (hF.trNew hN9).loc hO13 (.inr g_b7)
 have g_b14 := Nat.le_trans hF.size hb18
 refine Zn ?_
 refine Zf fo83_2 ?_
 replace hB := hB.new hN16
 refine Zs1 (cs' := #[.int .i64 id, .pointer (some ⟨lb, 0, none⟩), .pointer (some ⟨b14, 0, none⟩), .pointer (some ⟨bg, 0, none⟩)]) sz80 hB (show 2 < 4 by decide) rfl fun w19 hO20 hBq => ?_
 replace hB := hBq
 clear hBq
 refine Znn ?_
 refine Zsr ?_
 refine Za ?_
 refine Znn ?_
 refine Zsq ?_
 refine Zsr ?_
 refine Zm ?_
 refine Znn ?_
 refine Zct ?_
 refine Zrg ?_
 refine Za ?_
 refine Znn ?_
 refine Zsr ?_
 refine Zm ?_
 refine Zm ?_
 refine Zm ?_
 refine Zm ?_
 refine Zk (args := #[.pointer (some ⟨b, 0, none⟩), .int .i64 2, .int .u32 line]) cf47 (msg_c hB 2 line (by omega)) ?_
 rintro v w21 ⟨rfl, hN22⟩
 intro a fr
 refine fx_build1 (E := msgE) (p := (mkM 2 id 4 line)) elMsg (by decide) fr rfl rfl (by decide) rfl (fr.ev rfl) ?_
 clear fr a
 intro A23 w24 hN25 O26 hA27
 intro a fr
 refine fx_append (E := msgE) (l := []) (l' := [(mkM 2 id 4 line)]) elMsg fr rfl rfl (by decide) rfl (fr.ev rfl) (fr.ev rfl) (by first | rfl | (simp; done) | (simp; omega)) (by first | rfl | (simp; done) | (simp; omega)) Own.nil O26.view (by first | omega | (simp only [List.length_append, List.length_cons, List.length_nil, List.nil_append]; omega)) (by first | (unfold maxLen; done) | (unfold maxLen; first | omega | (simp; done) | (simp; omega))) ?_
 clear fr a
 intro A28 cap29 w30 O31 hO32 mv33
 replace hF := (((hF.trNew hN16).loc hO20 (.inl ((hP.foot b).2 (.inl rfl)))).trNew hN22).trNew hN25
 have gN_A28 := fun g (hg : inA A28 g) => (mv33 g hg).elim (fun h => absurd h (apart_none g)) (fun h => Nat.le_trans hF.size h)
 replace hO32 := only_none hO32
 refine Za ?_
 refine Za ?_
 refine Znn ?_
 refine Zrt ?_
 refine Zre rfl [_, _] ⟨rfl, rfl, trivial⟩ ?_
 have gi_b14 : Fp b14 ∨ w.heap.size ≤ b14 := .inr g_b14
 replace hL := ((((hL.new hN16).only hO20 (ne1P ap_FpL_b)).new hN22).new hN25).new hO32
 replace hGB := ((((hGB.new hN16).only hO20 ne_bg_b).new hN22).new hN25).new hO32
 replace B17 := (((B17.only hO20 ne_b_b14.symm).new hN22).new hN25).new hO32
 replace hB := ((hB.new hN22).new hN25).new hO32
 replace hF := hF.trNew hO32
 exact ⟨_, rfl, A28, cap29, rfl, O31, gN_A28, (fun k => k = b ∨ FpL k ∨ (fun k => k = b14) k ∨ (fun k => k = bg) k), ⟨lb, FpL, _, _, (fun k => k = b14), (fun k => k = bg), hB, hL, ⟨b14, rfl, B17, fun _ => Iff.rfl, hln⟩, ⟨bg, rfl, hGB, fun _ => Iff.rfl⟩, ⟨ap_FpL_b, (fun e => (show ¬ b = b14 from ne_b_b14) e), (fun e => (show ¬ b = bg from ne_bg_b.symm) e), (fun k hk e => ap_FpL_b14 (e ▸ hk)), (fun k hk e => ap_FpL_bg (e ▸ hk)), (fun k e e2 => (show ¬ b14 = bg from ne_bg_b14.symm) (e.symm.trans e2)), fun _ => Iff.rfl⟩⟩, hF, (fun g hg => hg.elim (fun e => by rw [e]; exact .inl ((hP.foot b).2 (.inl rfl))) fun h => h.elim (gA_FpL g) fun h => h.elim (fun e => by rw [e]; exact gi_b14) (fun e => by rw [e]; exact gi_bg))⟩
theorem ask_sw0s {w : World} {Fp : Nat → Prop} {b : Nat} {id : Int} {n : Nat} {ways : Int} {L : List Ln} {gx : Ln} (H : CacheAt w Fp b ⟨id, n, ways, L, none, (some gx)⟩) (line : Int) (hln : 0 ≤ line ∧ line < 4294967296) (pick : Int) (hg : ¬ gx.num = line) (hs : ¬ stateOf L line ≠ 0) (vx : Ln) (hv : vicL n ways L line pick = some vx) (hx : vx.state = 1) : Calls Try.prog 13 #[.pointer (some ⟨b, 0, none⟩), .int .u32 line, .bool true, .int .i64 pick] w (Ret fun v w' => ∃ A' cap', v = .tuple #[.slice A' ([askM id line true hln]).length cap', .int .i64 0] ∧ Own msgE w' A' cap' ([askM id line true hln]) ∧ (∀ g, inA A' g → w.heap.size ≤ g) ∧ ∃ Fp', CacheAt w' Fp' b ⟨id, n, ways, dropL L vx.num, (some (line, true)), (some gx)⟩ ∧ Only Fp w w' ∧ ∀ g, Fp' g → Fp g ∨ w.heap.size ≤ g) := by
 obtain ⟨lb, FpL, pa, pg, FpA, FpG, hB, hL, hA, hG, hP⟩ := H
 dsimp only at hB hL hA hG
 have ap_FpL_b := hP.lb
 have ap_FpG_b := hP.gb
 have ap2_FpL_FpG := hP.lg
 obtain ⟨hn1, hn2, hw1, hw2⟩ := hL.bd
 have gA_FpL : ∀ g, FpL g → Fp g ∨ w.heap.size ≤ g := fun g hg => .inl ((hP.foot g).2 (.inr (.inl hg)))
 have gA_FpG : ∀ g, FpG g → Fp g ∨ w.heap.size ≤ g := fun g hg => .inl ((hP.foot g).2 (.inr (.inr (.inr hg))))
 have hF := Only.refl (Fp) w
 refine Zen 91 Try.func13 ?_
 refine Zsr ?_
 refine Za ?_
 refine Za ?_
 refine Znn ?_
 refine Zsq ?_
 refine Zsr ?_
 refine Zm ?_
 refine Zk cf43 (cnone_c hB) ?_
 rintro v w9 ⟨rfl, hw9⟩
 obtain rfl := hw9.symm
 refine Znn ?_
 refine Zcf ?_
 refine Zsk ?_
 refine Znx ?_
 refine Zsr ?_
 refine Zm ?_
 refine Zm ?_
 refine Zk (args := #[.pointer (some ⟨b, 0, none⟩), .int .u32 line]) cf34 (state_c line (by omega) hB hL ap_FpL_b) ?_
 rintro v w3 ⟨rfl, hN4⟩
 refine Za ?_
 refine Znn ?_
 refine Zsq ?_
 refine Zbl ?_
 refine Zsq ?_
 replace hA := hA.new hN4
 obtain ⟨rfl, hA0⟩ := hA
 replace hG := hG.new hN4
 obtain ⟨bg, rfl, hGB, hGF⟩ := hG
 have ne_bg_b : NE bg b := fun e => ap_FpG_b (e ▸ (hGF bg).2 rfl)
 have ap_FpL_bg : ¬ FpL bg := fun h => ap2_FpL_FpG bg h ((hGF bg).2 rfl)
 have gi_bg := gA_FpG bg ((hGF bg).2 rfl)
 refine Zrg ?_
 refine Zm ?_
 refine Zn ?_
 refine Zf fo83_2 ?_
 replace hB := hB.new hN4
 refine Zd pl80 (hB.cell 2 rfl) ?_
 refine Zv (.bool false) (fun _ fr => x_pneq Try.underlying80 rfl (fr.ev rfl) rfl rfl) ?_
 refine Zm ?_
 refine Zm ?_
 refine Zn ?_
 refine Zf fo83_3 ?_
 refine Zd pl81 (hB.cell 3 rfl) ?_
 refine Zv (.bool true) (fun _ fr => x_pneq Try.underlying81 rfl (fr.ev rfl) rfl rfl) ?_
 refine Zm ?_
 refine Zm ?_
 refine Zn ?_
 refine Zf fo83_3 ?_
 refine Zd pl81 (hB.cell 3 rfl) ?_
 refine Zn ?_
 refine Zf fo39_0 ?_
 refine Zd (v := .int .u32 gx.num) pl32 (hGB.cell 0 rfl) ?_
 refine Zm ?_
 refine Zv (.bool false) (fun _ fr => x_eql rfl (fr.ev rfl) (fr.ev rfl) (decide_eq_false hg)) ?_
 refine Zpt ?_
 refine Zpf ?_
 refine Za ?_
 refine Znn ?_
 refine Zcf ?_
 refine Zsr ?_
 refine Zm ?_
 refine Zv (.bool false) (fun _ fr => x_neq rfl (fr.ev rfl) rfl (decide_eq_false hs)) ?_
 refine Zm ?_
 refine Zs ?_
 refine Zs ?_
 refine Zs ?_
 refine Zs ?_
 refine Zs ?_
 refine Zs ?_
 refine Zpf ?_
 refine Za ?_
 refine Znn ?_
 refine Zcf ?_
 refine Zsk ?_
 refine Zb ?_
 refine Znx ?_
 refine Zsq ?_
 refine Zsr ?_
 refine Zm ?_
 refine Zn ?_
 refine Zf fo83_1 ?_
 refine Zd pl79 (hB.cell 1 rfl) ?_
 refine Zm ?_
 refine Zm ?_
 replace hL := hL.new hN4
 refine Zk (args := #[.pointer (some ⟨lb, 0, none⟩), .int .u32 line, .int .i64 pick]) cf45 (victim_c line (by omega) pick hL) ?_
 rintro v w5 ⟨rfl, hN6⟩
 intro a fr
 rw [hv] at fr
 simp only [Option.getD_some, Option.isSome_some] at fr
 revert a
 refine Zm ?_
 refine Zt ?_
 refine Zt ?_
 refine Zna (z := zv1) (cs := lnE.arr ln0) (by kernel_rfl) fun b7 w8 hN9 B10 hb11 => ?_
 replace hB := hB.new hN6
 have ne_b_b7 : NE b b7 := NE.mk (Nat.lt_of_lt_of_le hB.lt hb11)
 replace hL := hL.new hN6
 have ap_FpL_b7 : ¬ FpL b7 := hL.apart hb11
 replace hGB := hGB.new hN6
 have ne_bg_b7 : NE bg b7 := NE.mk (Nat.lt_of_lt_of_le hGB.lt hb11)
 replace hF := (hF.trNew hN4).trNew hN6
 have g_b7 := Nat.le_trans hF.size hb11
 refine ZsS sz39 (lnE.all _) B10 (lnE.size _) (lnE.size _) fun w12 hO13 hBq => ?_
 replace B10 := hBq
 clear hBq
 refine Za ?_
 refine Znn ?_
 refine Zsr ?_
 refine Zm ?_
 refine Znn ?_
 refine Zct ?_
 refine Zsr ?_
 refine Zm ?_
 refine ZE lnE ag39 (B10.rangeE lnE) ?_
 replace hB := (hB.new hN9).only hO13 ne_b_b7
 replace hL := (hL.new hN9).only hO13 (ne1P ap_FpL_b7)
 refine Zk cf46 (out_s hB hL ap_FpL_b vx hx) ?_
 rintro v w18 ⟨rfl, hB14, Fp15, H16, mv17, hN19⟩
 have ap_Fp15_b : ¬ Fp15 b := moved_apartP mv17 ap_FpL_b hB.lt
 replace hGB := (hGB.new hN9).only hO13 ne_bg_b7
 have ap_Fp15_bg : ¬ Fp15 bg := moved_apartP mv17 ap_FpL_bg hGB.lt
 replace hF := (hF.trNew hN9).loc hO13 (.inr g_b7)
 have gA_Fp15 := gA_movedP hF mv17 gA_FpL
 clear hL
 replace hB := hB14
 clear hB14
 refine Zm ?_
 refine Zt ?_
 refine Zt ?_
 refine Za ?_
 refine Za ?_
 refine Znn ?_
 refine Zsq ?_
 refine Zsr ?_
 refine Zm ?_
 refine Zv (.bool false) (fun _ fr => x_not rfl (fr.ev rfl) rfl) ?_
 refine Znn ?_
 refine Zcf ?_
 refine Zsk ?_
 refine Znx ?_
 refine Zrg ?_
 refine Zm ?_
 refine Za ?_
 refine Znn ?_
 refine Zsr ?_
 refine Zm ?_
 refine Zm ?_
 refine Zm ?_
 refine Zv (.agg (#[.int .u32 line, .bool true])) (fun a fr => x_build (cells := #[.int .u32 line, .bool true]) rfl (by simp only [List.map_toArray, List.map_cons, List.map_nil, show a.eval (.tmp 77) = .int .u32 line from fr.ev rfl, show a.eval (.tmp 78) = .bool true from fr.ev rfl]; kernel_rfl)) ?_
 refine Znb (cs := #[.int .u32 line, .bool true]) fun b20 w21 hN22 B23 hb24 => ?_
 replace hGB := hGB.only hN19 (fun h => h.elim ne_bg_b ap_FpL_bg)
 have ne_bg_b20 : NE bg b20 := NE.mk (Nat.lt_of_lt_of_le hGB.lt hb24)
 have ne_b_b20 : NE b b20 := NE.mk (Nat.lt_of_lt_of_le hB.lt hb24)
 have ap_Fp15_b20 : ¬ Fp15 b20 := H16.apart hb24
 replace hF := hF.locS hN19 (fun i => (fun h => h.elim (fun e => by rw [e]; exact (.inl ((hP.foot b).2 (.inl rfl)))) (fun h => gA_FpL i h)))
 have g_b20 := Nat.le_trans hF.size hb24
 refine Zn ?_
 refine Zf fo83_2 ?_
 replace hB := hB.new hN22
 refine Zs1 (cs' := #[.int .i64 id, .pointer (some ⟨lb, 0, none⟩), .pointer (some ⟨b20, 0, none⟩), .pointer (some ⟨bg, 0, none⟩)]) sz80 hB (show 2 < 4 by decide) rfl fun w25 hO26 hBq => ?_
 replace hB := hBq
 clear hBq
 refine Znn ?_
 refine Zsr ?_
 refine Za ?_
 refine Znn ?_
 refine Zsq ?_
 refine Zsr ?_
 refine Zm ?_
 refine Znn ?_
 refine Zct ?_
 refine Zrg ?_
 refine Za ?_
 refine Znn ?_
 refine Zsr ?_
 refine Zm ?_
 refine Zm ?_
 refine Zm ?_
 refine Zm ?_
 refine Zk (args := #[.pointer (some ⟨b, 0, none⟩), .int .i64 2, .int .u32 line]) cf47 (msg_c hB 2 line (by omega)) ?_
 rintro v w27 ⟨rfl, hN28⟩
 intro a fr
 refine fx_build1 (E := msgE) (p := (mkM 2 id 4 line)) elMsg (by decide) fr rfl rfl (by decide) rfl (fr.ev rfl) ?_
 clear fr a
 intro A29 w30 hN31 O32 hA33
 intro a fr
 refine fx_append (E := msgE) (l := []) (l' := [(mkM 2 id 4 line)]) elMsg fr rfl rfl (by decide) rfl (fr.ev rfl) (fr.ev rfl) (by first | rfl | (simp; done) | (simp; omega)) (by first | rfl | (simp; done) | (simp; omega)) Own.nil O32.view (by first | omega | (simp only [List.length_append, List.length_cons, List.length_nil, List.nil_append]; omega)) (by first | (unfold maxLen; done) | (unfold maxLen; first | omega | (simp; done) | (simp; omega))) ?_
 clear fr a
 intro A34 cap35 w36 O37 hO38 mv39
 replace hF := (((hF.trNew hN22).loc hO26 (.inl ((hP.foot b).2 (.inl rfl)))).trNew hN28).trNew hN31
 have gN_A34 := fun g (hg : inA A34 g) => (mv39 g hg).elim (fun h => absurd h (apart_none g)) (fun h => Nat.le_trans hF.size h)
 replace hO38 := only_none hO38
 refine Za ?_
 refine Za ?_
 refine Znn ?_
 refine Zrt ?_
 refine Zre rfl [_, _] ⟨rfl, rfl, trivial⟩ ?_
 have gi_b20 : Fp b20 ∨ w.heap.size ≤ b20 := .inr g_b20
 replace hGB := ((((hGB.new hN22).only hO26 ne_bg_b).new hN28).new hN31).new hO38
 replace H16 := ((((H16.new hN22).only hO26 (ne1P ap_Fp15_b)).new hN28).new hN31).new hO38
 replace B23 := (((B23.only hO26 ne_b_b20.symm).new hN28).new hN31).new hO38
 replace hB := ((hB.new hN28).new hN31).new hO38
 replace hF := hF.trNew hO38
 exact ⟨_, rfl, A34, cap35, rfl, O37, gN_A34, (fun k => k = b ∨ Fp15 k ∨ (fun k => k = b20) k ∨ (fun k => k = bg) k), ⟨lb, Fp15, _, _, (fun k => k = b20), (fun k => k = bg), hB, H16, ⟨b20, rfl, B23, fun _ => Iff.rfl, hln⟩, ⟨bg, rfl, hGB, fun _ => Iff.rfl⟩, ⟨ap_Fp15_b, (fun e => (show ¬ b = b20 from ne_b_b20) e), (fun e => (show ¬ b = bg from ne_bg_b.symm) e), (fun k hk e => ap_Fp15_b20 (e ▸ hk)), (fun k hk e => ap_Fp15_bg (e ▸ hk)), (fun k e e2 => (show ¬ b20 = bg from ne_bg_b20.symm) (e.symm.trans e2)), fun _ => Iff.rfl⟩⟩, hF, (fun g hg => hg.elim (fun e => by rw [e]; exact .inl ((hP.foot b).2 (.inl rfl))) fun h => h.elim (gA_Fp15 g) fun h => h.elim (fun e => by rw [e]; exact gi_b20) (fun e => by rw [e]; exact gi_bg))⟩
theorem ask_bw0s {w : World} {Fp : Nat → Prop} {b : Nat} {id : Int} {n : Nat} {ways : Int} {L : List Ln} {gx : Ln} (H : CacheAt w Fp b ⟨id, n, ways, L, none, (some gx)⟩) (line : Int) (hln : 0 ≤ line ∧ line < 4294967296) (pick : Int) (hg : ¬ gx.num = line) (hs : ¬ stateOf L line ≠ 0) (vx : Ln) (hv : vicL n ways L line pick = some vx) (hx : ¬ vx.state = 1) : Calls Try.prog 13 #[.pointer (some ⟨b, 0, none⟩), .int .u32 line, .bool true, .int .i64 pick] w (Ret fun v w' => v = .tuple #[.slice none 0 0, .int .i64 230] ∧ New w w') := by
 obtain ⟨lb, FpL, pa, pg, FpA, FpG, hB, hL, hA, hG, hP⟩ := H
 dsimp only at hB hL hA hG
 have ap_FpL_b := hP.lb
 obtain ⟨hn1, hn2, hw1, hw2⟩ := hL.bd
 have gA_FpG := fun g (hg : FpG g) => (Or.inl trivial : True ∨ w.heap.size ≤ g)
 have hF := Only.refl (fun _ => False) w
 refine Zen 91 Try.func13 ?_
 refine Zsr ?_
 refine Za ?_
 refine Za ?_
 refine Znn ?_
 refine Zsq ?_
 refine Zsr ?_
 refine Zm ?_
 refine Zk cf43 (cnone_c hB) ?_
 rintro v w9 ⟨rfl, hw9⟩
 obtain rfl := hw9.symm
 refine Znn ?_
 refine Zcf ?_
 refine Zsk ?_
 refine Znx ?_
 refine Zsr ?_
 refine Zm ?_
 refine Zm ?_
 refine Zk (args := #[.pointer (some ⟨b, 0, none⟩), .int .u32 line]) cf34 (state_c line (by omega) hB hL ap_FpL_b) ?_
 rintro v w3 ⟨rfl, hN4⟩
 refine Za ?_
 refine Znn ?_
 refine Zsq ?_
 refine Zbl ?_
 refine Zsq ?_
 replace hA := hA.new hN4
 obtain ⟨rfl, hA0⟩ := hA
 replace hG := hG.new hN4
 obtain ⟨bg, rfl, hGB, hGF⟩ := hG
 have gi_bg := gA_FpG bg ((hGF bg).2 rfl)
 refine Zrg ?_
 refine Zm ?_
 refine Zn ?_
 refine Zf fo83_2 ?_
 replace hB := hB.new hN4
 refine Zd pl80 (hB.cell 2 rfl) ?_
 refine Zv (.bool false) (fun _ fr => x_pneq Try.underlying80 rfl (fr.ev rfl) rfl rfl) ?_
 refine Zm ?_
 refine Zm ?_
 refine Zn ?_
 refine Zf fo83_3 ?_
 refine Zd pl81 (hB.cell 3 rfl) ?_
 refine Zv (.bool true) (fun _ fr => x_pneq Try.underlying81 rfl (fr.ev rfl) rfl rfl) ?_
 refine Zm ?_
 refine Zm ?_
 refine Zn ?_
 refine Zf fo83_3 ?_
 refine Zd pl81 (hB.cell 3 rfl) ?_
 refine Zn ?_
 refine Zf fo39_0 ?_
 refine Zd (v := .int .u32 gx.num) pl32 (hGB.cell 0 rfl) ?_
 refine Zm ?_
 refine Zv (.bool false) (fun _ fr => x_eql rfl (fr.ev rfl) (fr.ev rfl) (decide_eq_false hg)) ?_
 refine Zpt ?_
 refine Zpf ?_
 refine Za ?_
 refine Znn ?_
 refine Zcf ?_
 refine Zsr ?_
 refine Zm ?_
 refine Zv (.bool false) (fun _ fr => x_neq rfl (fr.ev rfl) rfl (decide_eq_false hs)) ?_
 refine Zm ?_
 refine Zs ?_
 refine Zs ?_
 refine Zs ?_
 refine Zs ?_
 refine Zs ?_
 refine Zs ?_
 refine Zpf ?_
 refine Za ?_
 refine Znn ?_
 refine Zcf ?_
 refine Zsk ?_
 refine Zb ?_
 refine Znx ?_
 refine Zsq ?_
 refine Zsr ?_
 refine Zm ?_
 refine Zn ?_
 refine Zf fo83_1 ?_
 refine Zd pl79 (hB.cell 1 rfl) ?_
 refine Zm ?_
 refine Zm ?_
 replace hL := hL.new hN4
 refine Zk (args := #[.pointer (some ⟨lb, 0, none⟩), .int .u32 line, .int .i64 pick]) cf45 (victim_c line (by omega) pick hL) ?_
 rintro v w5 ⟨rfl, hN6⟩
 intro a fr
 rw [hv] at fr
 simp only [Option.getD_some, Option.isSome_some] at fr
 revert a
 refine Zm ?_
 refine Zt ?_
 refine Zt ?_
 refine Zna (z := zv1) (cs := lnE.arr ln0) (by kernel_rfl) fun b7 w8 hN9 B10 hb11 => ?_
 replace hB := hB.new hN6
 have ne_b_b7 : NE b b7 := NE.mk (Nat.lt_of_lt_of_le hB.lt hb11)
 replace hL := hL.new hN6
 have ap_FpL_b7 : ¬ FpL b7 := hL.apart hb11
 replace hF := (hF.trNew hN4).trNew hN6
 have g_b7 := Nat.le_trans hF.size hb11
 refine ZsS sz39 (lnE.all _) B10 (lnE.size _) (lnE.size _) fun w12 hO13 hBq => ?_
 replace B10 := hBq
 clear hBq
 refine Za ?_
 refine Znn ?_
 refine Zsr ?_
 refine Zm ?_
 refine Znn ?_
 refine Zct ?_
 refine Zsr ?_
 refine Zm ?_
 refine ZE lnE ag39 (B10.rangeE lnE) ?_
 replace hB := (hB.new hN9).only hO13 ne_b_b7
 replace hL := (hL.new hN9).only hO13 (ne1P ap_FpL_b7)
 refine Zk cf46 (out_b hB hL ap_FpL_b vx hx) ?_
 rintro v w14 ⟨rfl, hN15⟩
 refine Zm ?_
 refine Zt ?_
 refine Zt ?_
 refine Za ?_
 refine Za ?_
 refine Znn ?_
 refine Zsq ?_
 refine Zsr ?_
 refine Zm ?_
 refine Zv (.bool true) (fun _ fr => x_not rfl (fr.ev rfl) rfl) ?_
 refine Znn ?_
 refine Zct ?_
 refine Zsr ?_
 refine Za ?_
 refine Za ?_
 refine Znn ?_
 refine Zrt ?_
 refine Zr1 ?_
 refine Zr1 ?_
 refine Zre rfl [_, _] ⟨rfl, rfl, trivial⟩ ?_
 replace hF := ((hF.trNew hN9).loc hO13 (.inr g_b7)).trNew hN15
 exact ⟨_, rfl, rfl, hF⟩
theorem ask_nw1s {w : World} {Fp : Nat → Prop} {b : Nat} {id : Int} {n : Nat} {ways : Int} {L : List Ln} {gx : Ln} (H : CacheAt w Fp b ⟨id, n, ways, L, none, (some gx)⟩) (line : Int) (hln : 0 ≤ line ∧ line < 4294967296) (pick : Int) (hg : ¬ gx.num = line) (hs : stateOf L line ≠ 0) (hw : writesB (stateOf L line) = false) (hv : vicL n ways L line pick = none) : Calls Try.prog 13 #[.pointer (some ⟨b, 0, none⟩), .int .u32 line, .bool true, .int .i64 pick] w (Ret fun v w' => ∃ A' cap', v = .tuple #[.slice A' ([askM id line true hln]).length cap', .int .i64 0] ∧ Own msgE w' A' cap' ([askM id line true hln]) ∧ (∀ g, inA A' g → w.heap.size ≤ g) ∧ ∃ Fp', CacheAt w' Fp' b ⟨id, n, ways, L, (some (line, true)), (some gx)⟩ ∧ Only Fp w w' ∧ ∀ g, Fp' g → Fp g ∨ w.heap.size ≤ g) := by
 obtain ⟨lb, FpL, pa, pg, FpA, FpG, hB, hL, hA, hG, hP⟩ := H
 dsimp only at hB hL hA hG
 have ap_FpL_b := hP.lb
 have ap_FpG_b := hP.gb
 have ap2_FpL_FpG := hP.lg
 obtain ⟨hn1, hn2, hw1, hw2⟩ := hL.bd
 have gA_FpL : ∀ g, FpL g → Fp g ∨ w.heap.size ≤ g := fun g hg => .inl ((hP.foot g).2 (.inr (.inl hg)))
 have gA_FpG : ∀ g, FpG g → Fp g ∨ w.heap.size ≤ g := fun g hg => .inl ((hP.foot g).2 (.inr (.inr (.inr hg))))
 have hF := Only.refl (Fp) w
 refine Zen 91 Try.func13 ?_
 refine Zsr ?_
 refine Za ?_
 refine Za ?_
 refine Znn ?_
 refine Zsq ?_
 refine Zsr ?_
 refine Zm ?_
 refine Zk cf43 (cnone_c hB) ?_
 rintro v w9 ⟨rfl, hw9⟩
 obtain rfl := hw9.symm
 refine Znn ?_
 refine Zcf ?_
 refine Zsk ?_
 refine Znx ?_
 refine Zsr ?_
 refine Zm ?_
 refine Zm ?_
 refine Zk (args := #[.pointer (some ⟨b, 0, none⟩), .int .u32 line]) cf34 (state_c line (by omega) hB hL ap_FpL_b) ?_
 rintro v w3 ⟨rfl, hN4⟩
 refine Za ?_
 refine Znn ?_
 refine Zsq ?_
 refine Zbl ?_
 refine Zsq ?_
 replace hA := hA.new hN4
 obtain ⟨rfl, hA0⟩ := hA
 replace hG := hG.new hN4
 obtain ⟨bg, rfl, hGB, hGF⟩ := hG
 have ne_bg_b : NE bg b := fun e => ap_FpG_b (e ▸ (hGF bg).2 rfl)
 have ap_FpL_bg : ¬ FpL bg := fun h => ap2_FpL_FpG bg h ((hGF bg).2 rfl)
 have gi_bg := gA_FpG bg ((hGF bg).2 rfl)
 refine Zrg ?_
 refine Zm ?_
 refine Zn ?_
 refine Zf fo83_2 ?_
 replace hB := hB.new hN4
 refine Zd pl80 (hB.cell 2 rfl) ?_
 refine Zv (.bool false) (fun _ fr => x_pneq Try.underlying80 rfl (fr.ev rfl) rfl rfl) ?_
 refine Zm ?_
 refine Zm ?_
 refine Zn ?_
 refine Zf fo83_3 ?_
 refine Zd pl81 (hB.cell 3 rfl) ?_
 refine Zv (.bool true) (fun _ fr => x_pneq Try.underlying81 rfl (fr.ev rfl) rfl rfl) ?_
 refine Zm ?_
 refine Zm ?_
 refine Zn ?_
 refine Zf fo83_3 ?_
 refine Zd pl81 (hB.cell 3 rfl) ?_
 refine Zn ?_
 refine Zf fo39_0 ?_
 refine Zd (v := .int .u32 gx.num) pl32 (hGB.cell 0 rfl) ?_
 refine Zm ?_
 refine Zv (.bool false) (fun _ fr => x_eql rfl (fr.ev rfl) (fr.ev rfl) (decide_eq_false hg)) ?_
 refine Zpt ?_
 refine Zpf ?_
 refine Za ?_
 refine Znn ?_
 refine Zcf ?_
 refine Zsr ?_
 refine Zm ?_
 refine Zv (.bool true) (fun _ fr => x_neq rfl (fr.ev rfl) rfl (decide_eq_true hs)) ?_
 refine Zm ?_
 refine Zm ?_
 refine Zv (.bool false) (fun _ fr => x_not rfl (fr.ev rfl) rfl) ?_
 refine Zm ?_
 refine Zm ?_
 refine Zk cf44 (writes_c (stateOf L line) _) ?_
 rintro v _ ⟨rfl, hw9⟩
 obtain rfl := hw9.symm
 intro a fr
 rw [hw] at fr
 revert a
 refine Zpf ?_
 refine Zpt ?_
 refine Za ?_
 refine Znn ?_
 refine Zcf ?_
 refine Zsk ?_
 refine Zb ?_
 refine Znx ?_
 refine Zsq ?_
 refine Zsr ?_
 refine Zm ?_
 refine Zn ?_
 refine Zf fo83_1 ?_
 refine Zd pl79 (hB.cell 1 rfl) ?_
 refine Zm ?_
 refine Zm ?_
 replace hL := hL.new hN4
 refine Zk (args := #[.pointer (some ⟨lb, 0, none⟩), .int .u32 line, .int .i64 pick]) cf45 (victim_c line (by omega) pick hL) ?_
 rintro v w7 ⟨rfl, hN8⟩
 intro a fr
 rw [hv] at fr
 simp only [Option.getD_none, Option.isSome_none] at fr
 revert a
 refine Zm ?_
 refine Zt ?_
 refine Zt ?_
 refine Zna (z := zv1) (cs := lnE.arr ln0) (by kernel_rfl) fun b9 w10 hN11 B12 hb13 => ?_
 replace hB := hB.new hN8
 have ne_b_b9 : NE b b9 := NE.mk (Nat.lt_of_lt_of_le hB.lt hb13)
 replace hL := hL.new hN8
 have ap_FpL_b9 : ¬ FpL b9 := hL.apart hb13
 replace hGB := hGB.new hN8
 have ne_bg_b9 : NE bg b9 := NE.mk (Nat.lt_of_lt_of_le hGB.lt hb13)
 replace hF := (hF.trNew hN4).trNew hN8
 have g_b9 := Nat.le_trans hF.size hb13
 refine ZsS sz39 (lnE.all _) B12 (lnE.size _) (lnE.size _) fun w14 hO15 hBq => ?_
 clear hBq
 refine Za ?_
 refine Znn ?_
 refine Zsr ?_
 refine Zm ?_
 refine Znn ?_
 refine Zcf ?_
 refine Zsk ?_
 refine Znx ?_
 refine Zsr ?_
 refine Zm ?_
 refine Zm ?_
 refine Zm ?_
 refine Zv (.agg (#[.int .u32 line, .bool true])) (fun a fr => x_build (cells := #[.int .u32 line, .bool true]) rfl (by simp only [List.map_toArray, List.map_cons, List.map_nil, show a.eval (.tmp 77) = .int .u32 line from fr.ev rfl, show a.eval (.tmp 78) = .bool true from fr.ev rfl]; kernel_rfl)) ?_
 refine Znb (cs := #[.int .u32 line, .bool true]) fun b16 w17 hN18 B19 hb20 => ?_
 replace hB := (hB.new hN11).only hO15 ne_b_b9
 have ne_b_b16 : NE b b16 := NE.mk (Nat.lt_of_lt_of_le hB.lt hb20)
 replace hL := (hL.new hN11).only hO15 (ne1P ap_FpL_b9)
 have ap_FpL_b16 : ¬ FpL b16 := hL.apart hb20
 replace hGB := (hGB.new hN11).only hO15 ne_bg_b9
 have ne_bg_b16 : NE bg b16 := NE.mk (Nat.lt_of_lt_of_le hGB.lt hb20)
 replace hF := (hF.trNew hN11).loc hO15 (.inr g_b9)
 have g_b16 := Nat.le_trans hF.size hb20
 refine Zn ?_
 refine Zf fo83_2 ?_
 replace hB := hB.new hN18
 refine Zs1 (cs' := #[.int .i64 id, .pointer (some ⟨lb, 0, none⟩), .pointer (some ⟨b16, 0, none⟩), .pointer (some ⟨bg, 0, none⟩)]) sz80 hB (show 2 < 4 by decide) rfl fun w21 hO22 hBq => ?_
 replace hB := hBq
 clear hBq
 refine Znn ?_
 refine Zsr ?_
 refine Za ?_
 refine Znn ?_
 refine Zsq ?_
 refine Zsr ?_
 refine Zm ?_
 refine Znn ?_
 refine Zct ?_
 refine Zrg ?_
 refine Za ?_
 refine Znn ?_
 refine Zsr ?_
 refine Zm ?_
 refine Zm ?_
 refine Zm ?_
 refine Zm ?_
 refine Zk (args := #[.pointer (some ⟨b, 0, none⟩), .int .i64 2, .int .u32 line]) cf47 (msg_c hB 2 line (by omega)) ?_
 rintro v w23 ⟨rfl, hN24⟩
 intro a fr
 refine fx_build1 (E := msgE) (p := (mkM 2 id 4 line)) elMsg (by decide) fr rfl rfl (by decide) rfl (fr.ev rfl) ?_
 clear fr a
 intro A25 w26 hN27 O28 hA29
 intro a fr
 refine fx_append (E := msgE) (l := []) (l' := [(mkM 2 id 4 line)]) elMsg fr rfl rfl (by decide) rfl (fr.ev rfl) (fr.ev rfl) (by first | rfl | (simp; done) | (simp; omega)) (by first | rfl | (simp; done) | (simp; omega)) Own.nil O28.view (by first | omega | (simp only [List.length_append, List.length_cons, List.length_nil, List.nil_append]; omega)) (by first | (unfold maxLen; done) | (unfold maxLen; first | omega | (simp; done) | (simp; omega))) ?_
 clear fr a
 intro A30 cap31 w32 O33 hO34 mv35
 replace hF := (((hF.trNew hN18).loc hO22 (.inl ((hP.foot b).2 (.inl rfl)))).trNew hN24).trNew hN27
 have gN_A30 := fun g (hg : inA A30 g) => (mv35 g hg).elim (fun h => absurd h (apart_none g)) (fun h => Nat.le_trans hF.size h)
 replace hO34 := only_none hO34
 refine Za ?_
 refine Za ?_
 refine Znn ?_
 refine Zrt ?_
 refine Zre rfl [_, _] ⟨rfl, rfl, trivial⟩ ?_
 have gi_b16 : Fp b16 ∨ w.heap.size ≤ b16 := .inr g_b16
 replace hL := ((((hL.new hN18).only hO22 (ne1P ap_FpL_b)).new hN24).new hN27).new hO34
 replace hGB := ((((hGB.new hN18).only hO22 ne_bg_b).new hN24).new hN27).new hO34
 replace B19 := (((B19.only hO22 ne_b_b16.symm).new hN24).new hN27).new hO34
 replace hB := ((hB.new hN24).new hN27).new hO34
 replace hF := hF.trNew hO34
 exact ⟨_, rfl, A30, cap31, rfl, O33, gN_A30, (fun k => k = b ∨ FpL k ∨ (fun k => k = b16) k ∨ (fun k => k = bg) k), ⟨lb, FpL, _, _, (fun k => k = b16), (fun k => k = bg), hB, hL, ⟨b16, rfl, B19, fun _ => Iff.rfl, hln⟩, ⟨bg, rfl, hGB, fun _ => Iff.rfl⟩, ⟨ap_FpL_b, (fun e => (show ¬ b = b16 from ne_b_b16) e), (fun e => (show ¬ b = bg from ne_bg_b.symm) e), (fun k hk e => ap_FpL_b16 (e ▸ hk)), (fun k hk e => ap_FpL_bg (e ▸ hk)), (fun k e e2 => (show ¬ b16 = bg from ne_bg_b16.symm) (e.symm.trans e2)), fun _ => Iff.rfl⟩⟩, hF, (fun g hg => hg.elim (fun e => by rw [e]; exact .inl ((hP.foot b).2 (.inl rfl))) fun h => h.elim (gA_FpL g) fun h => h.elim (fun e => by rw [e]; exact gi_b16) (fun e => by rw [e]; exact gi_bg))⟩
theorem ask_sw1s {w : World} {Fp : Nat → Prop} {b : Nat} {id : Int} {n : Nat} {ways : Int} {L : List Ln} {gx : Ln} (H : CacheAt w Fp b ⟨id, n, ways, L, none, (some gx)⟩) (line : Int) (hln : 0 ≤ line ∧ line < 4294967296) (pick : Int) (hg : ¬ gx.num = line) (hs : stateOf L line ≠ 0) (hw : writesB (stateOf L line) = false) (vx : Ln) (hv : vicL n ways L line pick = some vx) (hx : vx.state = 1) : Calls Try.prog 13 #[.pointer (some ⟨b, 0, none⟩), .int .u32 line, .bool true, .int .i64 pick] w (Ret fun v w' => ∃ A' cap', v = .tuple #[.slice A' ([askM id line true hln]).length cap', .int .i64 0] ∧ Own msgE w' A' cap' ([askM id line true hln]) ∧ (∀ g, inA A' g → w.heap.size ≤ g) ∧ ∃ Fp', CacheAt w' Fp' b ⟨id, n, ways, dropL L vx.num, (some (line, true)), (some gx)⟩ ∧ Only Fp w w' ∧ ∀ g, Fp' g → Fp g ∨ w.heap.size ≤ g) := by
 obtain ⟨lb, FpL, pa, pg, FpA, FpG, hB, hL, hA, hG, hP⟩ := H
 dsimp only at hB hL hA hG
 have ap_FpL_b := hP.lb
 have ap_FpG_b := hP.gb
 have ap2_FpL_FpG := hP.lg
 obtain ⟨hn1, hn2, hw1, hw2⟩ := hL.bd
 have gA_FpL : ∀ g, FpL g → Fp g ∨ w.heap.size ≤ g := fun g hg => .inl ((hP.foot g).2 (.inr (.inl hg)))
 have gA_FpG : ∀ g, FpG g → Fp g ∨ w.heap.size ≤ g := fun g hg => .inl ((hP.foot g).2 (.inr (.inr (.inr hg))))
 have hF := Only.refl (Fp) w
 refine Zen 91 Try.func13 ?_
 refine Zsr ?_
 refine Za ?_
 refine Za ?_
 refine Znn ?_
 refine Zsq ?_
 refine Zsr ?_
 refine Zm ?_
 refine Zk cf43 (cnone_c hB) ?_
 rintro v w9 ⟨rfl, hw9⟩
 obtain rfl := hw9.symm
 refine Znn ?_
 refine Zcf ?_
 refine Zsk ?_
 refine Znx ?_
 refine Zsr ?_
 refine Zm ?_
 refine Zm ?_
 refine Zk (args := #[.pointer (some ⟨b, 0, none⟩), .int .u32 line]) cf34 (state_c line (by omega) hB hL ap_FpL_b) ?_
 rintro v w3 ⟨rfl, hN4⟩
 refine Za ?_
 refine Znn ?_
 refine Zsq ?_
 refine Zbl ?_
 refine Zsq ?_
 replace hA := hA.new hN4
 obtain ⟨rfl, hA0⟩ := hA
 replace hG := hG.new hN4
 obtain ⟨bg, rfl, hGB, hGF⟩ := hG
 have ne_bg_b : NE bg b := fun e => ap_FpG_b (e ▸ (hGF bg).2 rfl)
 have ap_FpL_bg : ¬ FpL bg := fun h => ap2_FpL_FpG bg h ((hGF bg).2 rfl)
 have gi_bg := gA_FpG bg ((hGF bg).2 rfl)
 refine Zrg ?_
 refine Zm ?_
 refine Zn ?_
 refine Zf fo83_2 ?_
 replace hB := hB.new hN4
 refine Zd pl80 (hB.cell 2 rfl) ?_
 refine Zv (.bool false) (fun _ fr => x_pneq Try.underlying80 rfl (fr.ev rfl) rfl rfl) ?_
 refine Zm ?_
 refine Zm ?_
 refine Zn ?_
 refine Zf fo83_3 ?_
 refine Zd pl81 (hB.cell 3 rfl) ?_
 refine Zv (.bool true) (fun _ fr => x_pneq Try.underlying81 rfl (fr.ev rfl) rfl rfl) ?_
 refine Zm ?_
 refine Zm ?_
 refine Zn ?_
 refine Zf fo83_3 ?_
 refine Zd pl81 (hB.cell 3 rfl) ?_
 refine Zn ?_
 refine Zf fo39_0 ?_
 refine Zd (v := .int .u32 gx.num) pl32 (hGB.cell 0 rfl) ?_
 refine Zm ?_
 refine Zv (.bool false) (fun _ fr => x_eql rfl (fr.ev rfl) (fr.ev rfl) (decide_eq_false hg)) ?_
 refine Zpt ?_
 refine Zpf ?_
 refine Za ?_
 refine Znn ?_
 refine Zcf ?_
 refine Zsr ?_
 refine Zm ?_
 refine Zv (.bool true) (fun _ fr => x_neq rfl (fr.ev rfl) rfl (decide_eq_true hs)) ?_
 refine Zm ?_
 refine Zm ?_
 refine Zv (.bool false) (fun _ fr => x_not rfl (fr.ev rfl) rfl) ?_
 refine Zm ?_
 refine Zm ?_
 refine Zk cf44 (writes_c (stateOf L line) _) ?_
 rintro v _ ⟨rfl, hw9⟩
 obtain rfl := hw9.symm
 intro a fr
 rw [hw] at fr
 revert a
 refine Zpf ?_
 refine Zpt ?_
 refine Za ?_
 refine Znn ?_
 refine Zcf ?_
 refine Zsk ?_
 refine Zb ?_
 refine Znx ?_
 refine Zsq ?_
 refine Zsr ?_
 refine Zm ?_
 refine Zn ?_
 refine Zf fo83_1 ?_
 refine Zd pl79 (hB.cell 1 rfl) ?_
 refine Zm ?_
 refine Zm ?_
 replace hL := hL.new hN4
 refine Zk (args := #[.pointer (some ⟨lb, 0, none⟩), .int .u32 line, .int .i64 pick]) cf45 (victim_c line (by omega) pick hL) ?_
 rintro v w7 ⟨rfl, hN8⟩
 intro a fr
 rw [hv] at fr
 simp only [Option.getD_some, Option.isSome_some] at fr
 revert a
 refine Zm ?_
 refine Zt ?_
 refine Zt ?_
 refine Zna (z := zv1) (cs := lnE.arr ln0) (by kernel_rfl) fun b9 w10 hN11 B12 hb13 => ?_
 replace hB := hB.new hN8
 have ne_b_b9 : NE b b9 := NE.mk (Nat.lt_of_lt_of_le hB.lt hb13)
 replace hL := hL.new hN8
 have ap_FpL_b9 : ¬ FpL b9 := hL.apart hb13
 replace hGB := hGB.new hN8
 have ne_bg_b9 : NE bg b9 := NE.mk (Nat.lt_of_lt_of_le hGB.lt hb13)
 replace hF := (hF.trNew hN4).trNew hN8
 have g_b9 := Nat.le_trans hF.size hb13
 refine ZsS sz39 (lnE.all _) B12 (lnE.size _) (lnE.size _) fun w14 hO15 hBq => ?_
 replace B12 := hBq
 clear hBq
 refine Za ?_
 refine Znn ?_
 refine Zsr ?_
 refine Zm ?_
 refine Znn ?_
 refine Zct ?_
 refine Zsr ?_
 refine Zm ?_
 refine ZE lnE ag39 (B12.rangeE lnE) ?_
 replace hB := (hB.new hN11).only hO15 ne_b_b9
 replace hL := (hL.new hN11).only hO15 (ne1P ap_FpL_b9)
 refine Zk cf46 (out_s hB hL ap_FpL_b vx hx) ?_
 rintro v w20 ⟨rfl, hB16, Fp17, H18, mv19, hN21⟩
 have ap_Fp17_b : ¬ Fp17 b := moved_apartP mv19 ap_FpL_b hB.lt
 replace hGB := (hGB.new hN11).only hO15 ne_bg_b9
 have ap_Fp17_bg : ¬ Fp17 bg := moved_apartP mv19 ap_FpL_bg hGB.lt
 replace hF := (hF.trNew hN11).loc hO15 (.inr g_b9)
 have gA_Fp17 := gA_movedP hF mv19 gA_FpL
 clear hL
 replace hB := hB16
 clear hB16
 refine Zm ?_
 refine Zt ?_
 refine Zt ?_
 refine Za ?_
 refine Za ?_
 refine Znn ?_
 refine Zsq ?_
 refine Zsr ?_
 refine Zm ?_
 refine Zv (.bool false) (fun _ fr => x_not rfl (fr.ev rfl) rfl) ?_
 refine Znn ?_
 refine Zcf ?_
 refine Zsk ?_
 refine Znx ?_
 refine Zrg ?_
 refine Zm ?_
 refine Za ?_
 refine Znn ?_
 refine Zsr ?_
 refine Zm ?_
 refine Zm ?_
 refine Zm ?_
 refine Zv (.agg (#[.int .u32 line, .bool true])) (fun a fr => x_build (cells := #[.int .u32 line, .bool true]) rfl (by simp only [List.map_toArray, List.map_cons, List.map_nil, show a.eval (.tmp 77) = .int .u32 line from fr.ev rfl, show a.eval (.tmp 78) = .bool true from fr.ev rfl]; kernel_rfl)) ?_
 refine Znb (cs := #[.int .u32 line, .bool true]) fun b22 w23 hN24 B25 hb26 => ?_
 replace hGB := hGB.only hN21 (fun h => h.elim ne_bg_b ap_FpL_bg)
 have ne_bg_b22 : NE bg b22 := NE.mk (Nat.lt_of_lt_of_le hGB.lt hb26)
 have ne_b_b22 : NE b b22 := NE.mk (Nat.lt_of_lt_of_le hB.lt hb26)
 have ap_Fp17_b22 : ¬ Fp17 b22 := H18.apart hb26
 replace hF := hF.locS hN21 (fun i => (fun h => h.elim (fun e => by rw [e]; exact (.inl ((hP.foot b).2 (.inl rfl)))) (fun h => gA_FpL i h)))
 have g_b22 := Nat.le_trans hF.size hb26
 refine Zn ?_
 refine Zf fo83_2 ?_
 replace hB := hB.new hN24
 refine Zs1 (cs' := #[.int .i64 id, .pointer (some ⟨lb, 0, none⟩), .pointer (some ⟨b22, 0, none⟩), .pointer (some ⟨bg, 0, none⟩)]) sz80 hB (show 2 < 4 by decide) rfl fun w27 hO28 hBq => ?_
 replace hB := hBq
 clear hBq
 refine Znn ?_
 refine Zsr ?_
 refine Za ?_
 refine Znn ?_
 refine Zsq ?_
 refine Zsr ?_
 refine Zm ?_
 refine Znn ?_
 refine Zct ?_
 refine Zrg ?_
 refine Za ?_
 refine Znn ?_
 refine Zsr ?_
 refine Zm ?_
 refine Zm ?_
 refine Zm ?_
 refine Zm ?_
 refine Zk (args := #[.pointer (some ⟨b, 0, none⟩), .int .i64 2, .int .u32 line]) cf47 (msg_c hB 2 line (by omega)) ?_
 rintro v w29 ⟨rfl, hN30⟩
 intro a fr
 refine fx_build1 (E := msgE) (p := (mkM 2 id 4 line)) elMsg (by decide) fr rfl rfl (by decide) rfl (fr.ev rfl) ?_
 clear fr a
 intro A31 w32 hN33 O34 hA35
 intro a fr
 refine fx_append (E := msgE) (l := []) (l' := [(mkM 2 id 4 line)]) elMsg fr rfl rfl (by decide) rfl (fr.ev rfl) (fr.ev rfl) (by first | rfl | (simp; done) | (simp; omega)) (by first | rfl | (simp; done) | (simp; omega)) Own.nil O34.view (by first | omega | (simp only [List.length_append, List.length_cons, List.length_nil, List.nil_append]; omega)) (by first | (unfold maxLen; done) | (unfold maxLen; first | omega | (simp; done) | (simp; omega))) ?_
 clear fr a
 intro A36 cap37 w38 O39 hO40 mv41
 replace hF := (((hF.trNew hN24).loc hO28 (.inl ((hP.foot b).2 (.inl rfl)))).trNew hN30).trNew hN33
 have gN_A36 := fun g (hg : inA A36 g) => (mv41 g hg).elim (fun h => absurd h (apart_none g)) (fun h => Nat.le_trans hF.size h)
 replace hO40 := only_none hO40
 refine Za ?_
 refine Za ?_
 refine Znn ?_
 refine Zrt ?_
 refine Zre rfl [_, _] ⟨rfl, rfl, trivial⟩ ?_
 have gi_b22 : Fp b22 ∨ w.heap.size ≤ b22 := .inr g_b22
 replace hGB := ((((hGB.new hN24).only hO28 ne_bg_b).new hN30).new hN33).new hO40
 replace H18 := ((((H18.new hN24).only hO28 (ne1P ap_Fp17_b)).new hN30).new hN33).new hO40
 replace B25 := (((B25.only hO28 ne_b_b22.symm).new hN30).new hN33).new hO40
 replace hB := ((hB.new hN30).new hN33).new hO40
 replace hF := hF.trNew hO40
 exact ⟨_, rfl, A36, cap37, rfl, O39, gN_A36, (fun k => k = b ∨ Fp17 k ∨ (fun k => k = b22) k ∨ (fun k => k = bg) k), ⟨lb, Fp17, _, _, (fun k => k = b22), (fun k => k = bg), hB, H18, ⟨b22, rfl, B25, fun _ => Iff.rfl, hln⟩, ⟨bg, rfl, hGB, fun _ => Iff.rfl⟩, ⟨ap_Fp17_b, (fun e => (show ¬ b = b22 from ne_b_b22) e), (fun e => (show ¬ b = bg from ne_bg_b.symm) e), (fun k hk e => ap_Fp17_b22 (e ▸ hk)), (fun k hk e => ap_Fp17_bg (e ▸ hk)), (fun k e e2 => (show ¬ b22 = bg from ne_bg_b22.symm) (e.symm.trans e2)), fun _ => Iff.rfl⟩⟩, hF, (fun g hg => hg.elim (fun e => by rw [e]; exact .inl ((hP.foot b).2 (.inl rfl))) fun h => h.elim (gA_Fp17 g) fun h => h.elim (fun e => by rw [e]; exact gi_b22) (fun e => by rw [e]; exact gi_bg))⟩
theorem ask_bw1s {w : World} {Fp : Nat → Prop} {b : Nat} {id : Int} {n : Nat} {ways : Int} {L : List Ln} {gx : Ln} (H : CacheAt w Fp b ⟨id, n, ways, L, none, (some gx)⟩) (line : Int) (hln : 0 ≤ line ∧ line < 4294967296) (pick : Int) (hg : ¬ gx.num = line) (hs : stateOf L line ≠ 0) (hw : writesB (stateOf L line) = false) (vx : Ln) (hv : vicL n ways L line pick = some vx) (hx : ¬ vx.state = 1) : Calls Try.prog 13 #[.pointer (some ⟨b, 0, none⟩), .int .u32 line, .bool true, .int .i64 pick] w (Ret fun v w' => v = .tuple #[.slice none 0 0, .int .i64 230] ∧ New w w') := by
 obtain ⟨lb, FpL, pa, pg, FpA, FpG, hB, hL, hA, hG, hP⟩ := H
 dsimp only at hB hL hA hG
 have ap_FpL_b := hP.lb
 obtain ⟨hn1, hn2, hw1, hw2⟩ := hL.bd
 have gA_FpG := fun g (hg : FpG g) => (Or.inl trivial : True ∨ w.heap.size ≤ g)
 have hF := Only.refl (fun _ => False) w
 refine Zen 91 Try.func13 ?_
 refine Zsr ?_
 refine Za ?_
 refine Za ?_
 refine Znn ?_
 refine Zsq ?_
 refine Zsr ?_
 refine Zm ?_
 refine Zk cf43 (cnone_c hB) ?_
 rintro v w9 ⟨rfl, hw9⟩
 obtain rfl := hw9.symm
 refine Znn ?_
 refine Zcf ?_
 refine Zsk ?_
 refine Znx ?_
 refine Zsr ?_
 refine Zm ?_
 refine Zm ?_
 refine Zk (args := #[.pointer (some ⟨b, 0, none⟩), .int .u32 line]) cf34 (state_c line (by omega) hB hL ap_FpL_b) ?_
 rintro v w3 ⟨rfl, hN4⟩
 refine Za ?_
 refine Znn ?_
 refine Zsq ?_
 refine Zbl ?_
 refine Zsq ?_
 replace hA := hA.new hN4
 obtain ⟨rfl, hA0⟩ := hA
 replace hG := hG.new hN4
 obtain ⟨bg, rfl, hGB, hGF⟩ := hG
 have gi_bg := gA_FpG bg ((hGF bg).2 rfl)
 refine Zrg ?_
 refine Zm ?_
 refine Zn ?_
 refine Zf fo83_2 ?_
 replace hB := hB.new hN4
 refine Zd pl80 (hB.cell 2 rfl) ?_
 refine Zv (.bool false) (fun _ fr => x_pneq Try.underlying80 rfl (fr.ev rfl) rfl rfl) ?_
 refine Zm ?_
 refine Zm ?_
 refine Zn ?_
 refine Zf fo83_3 ?_
 refine Zd pl81 (hB.cell 3 rfl) ?_
 refine Zv (.bool true) (fun _ fr => x_pneq Try.underlying81 rfl (fr.ev rfl) rfl rfl) ?_
 refine Zm ?_
 refine Zm ?_
 refine Zn ?_
 refine Zf fo83_3 ?_
 refine Zd pl81 (hB.cell 3 rfl) ?_
 refine Zn ?_
 refine Zf fo39_0 ?_
 refine Zd (v := .int .u32 gx.num) pl32 (hGB.cell 0 rfl) ?_
 refine Zm ?_
 refine Zv (.bool false) (fun _ fr => x_eql rfl (fr.ev rfl) (fr.ev rfl) (decide_eq_false hg)) ?_
 refine Zpt ?_
 refine Zpf ?_
 refine Za ?_
 refine Znn ?_
 refine Zcf ?_
 refine Zsr ?_
 refine Zm ?_
 refine Zv (.bool true) (fun _ fr => x_neq rfl (fr.ev rfl) rfl (decide_eq_true hs)) ?_
 refine Zm ?_
 refine Zm ?_
 refine Zv (.bool false) (fun _ fr => x_not rfl (fr.ev rfl) rfl) ?_
 refine Zm ?_
 refine Zm ?_
 refine Zk cf44 (writes_c (stateOf L line) _) ?_
 rintro v _ ⟨rfl, hw9⟩
 obtain rfl := hw9.symm
 intro a fr
 rw [hw] at fr
 revert a
 refine Zpf ?_
 refine Zpt ?_
 refine Za ?_
 refine Znn ?_
 refine Zcf ?_
 refine Zsk ?_
 refine Zb ?_
 refine Znx ?_
 refine Zsq ?_
 refine Zsr ?_
 refine Zm ?_
 refine Zn ?_
 refine Zf fo83_1 ?_
 refine Zd pl79 (hB.cell 1 rfl) ?_
 refine Zm ?_
 refine Zm ?_
 replace hL := hL.new hN4
 refine Zk (args := #[.pointer (some ⟨lb, 0, none⟩), .int .u32 line, .int .i64 pick]) cf45 (victim_c line (by omega) pick hL) ?_
 rintro v w7 ⟨rfl, hN8⟩
 intro a fr
 rw [hv] at fr
 simp only [Option.getD_some, Option.isSome_some] at fr
 revert a
 refine Zm ?_
 refine Zt ?_
 refine Zt ?_
 refine Zna (z := zv1) (cs := lnE.arr ln0) (by kernel_rfl) fun b9 w10 hN11 B12 hb13 => ?_
 replace hB := hB.new hN8
 have ne_b_b9 : NE b b9 := NE.mk (Nat.lt_of_lt_of_le hB.lt hb13)
 replace hL := hL.new hN8
 have ap_FpL_b9 : ¬ FpL b9 := hL.apart hb13
 replace hF := (hF.trNew hN4).trNew hN8
 have g_b9 := Nat.le_trans hF.size hb13
 refine ZsS sz39 (lnE.all _) B12 (lnE.size _) (lnE.size _) fun w14 hO15 hBq => ?_
 replace B12 := hBq
 clear hBq
 refine Za ?_
 refine Znn ?_
 refine Zsr ?_
 refine Zm ?_
 refine Znn ?_
 refine Zct ?_
 refine Zsr ?_
 refine Zm ?_
 refine ZE lnE ag39 (B12.rangeE lnE) ?_
 replace hB := (hB.new hN11).only hO15 ne_b_b9
 replace hL := (hL.new hN11).only hO15 (ne1P ap_FpL_b9)
 refine Zk cf46 (out_b hB hL ap_FpL_b vx hx) ?_
 rintro v w16 ⟨rfl, hN17⟩
 refine Zm ?_
 refine Zt ?_
 refine Zt ?_
 refine Za ?_
 refine Za ?_
 refine Znn ?_
 refine Zsq ?_
 refine Zsr ?_
 refine Zm ?_
 refine Zv (.bool true) (fun _ fr => x_not rfl (fr.ev rfl) rfl) ?_
 refine Znn ?_
 refine Zct ?_
 refine Zsr ?_
 refine Za ?_
 refine Za ?_
 refine Znn ?_
 refine Zrt ?_
 refine Zr1 ?_
 refine Zr1 ?_
 refine Zre rfl [_, _] ⟨rfl, rfl, trivial⟩ ?_
 replace hF := ((hF.trNew hN11).loc hO15 (.inr g_b9)).trNew hN17
 exact ⟨_, rfl, rfl, hF⟩
end Go.Proofs.Ytflnlmibkbojcaa
namespace Go.Proofs.Ytflnlmibkbojcaa
open Go.RowKit
theorem allP_len {n : Nat} {ways : Int} {L : List Ln} (hf : Fits n ways L) : ∀ i, i ≤ n → ((allP n L i).length : Int) ≤ i * ways
  | 0, _ => by simp [allP]
  | i + 1, h => by
    have h1 := allP_len hf i (by omega)
    have h2 := hf i (by omega)
    rw [allP_succ, List.length_append]
    push_cast
    rw [Int.add_mul]
    omega
theorem len_most {n : Nat} {ways : Int} {L : List Ln} (hn : 0 < n ∧ n ≤ 64 ∧ 1 ≤ ways ∧ ways ≤ 8) (hf : Fits n ways L) : L.length ≤ 512 := by
  have h1 := allP_len hf n (Nat.le_refl n)
  rw [allP_end, allL_len hn.1] at h1
  have h2 : (n : Int) * ways ≤ 64 * 8 := Int.mul_le_mul (by omega) hn.2.2.2 (by omega) (by omega)
  omega
end Go.Proofs.Ytflnlmibkbojcaa
namespace Go.Proofs.Ytflnlmibkbojcaa
open Go.RowKit
theorem evict_e {w : World} {Fp : Nat → Prop} {b : Nat} {id : Int} {n : Nat} {ways : Int} {L : List Ln} {ask : Option (Int × Bool)} {giv : Option Ln} (H : CacheAt w Fp b ⟨id, n, ways, L, ask, giv⟩) (pick : Int) (h0 : L.length = 0) : Calls Try.prog 25 #[.pointer (some ⟨b, 0, none⟩), .int .i64 pick] w (Ret fun v w' => v = .slice none 0 0 ∧ New w w') := by
 obtain ⟨lb, FpL, pa, pg, FpA, FpG, hB, hL, hA, hG, hP⟩ := H
 dsimp only at hB hL hA hG
 have ap_FpL_b := hP.lb
 obtain ⟨hn1, hn2, hw1, hw2⟩ := hL.bd
 have hlm := len_most hL.bd hL.fits
 have hal := allL_len hL.bd.1 L
 have hF := Only.refl (fun _ => False) w
 refine Zen 32 Try.func25 ?_
 refine Zsr ?_
 refine Za ?_
 refine Znn ?_
 refine Zsr ?_
 refine Zm ?_
 refine Zk (args := #[.pointer (some ⟨b, 0, none⟩)]) cf30 (clines_c hB hL ap_FpL_b (by omega)) ?_
 rintro v w5 ⟨A1, cap2, rfl, O3, hA4, hN6⟩
 refine Za ?_
 refine Znn ?_
 refine Zsq ?_
 refine Zsq ?_
 have hlz : ((((allL n L).length) : Nat) : Int) = 0 := by omega
 refine Zrg ?_
 refine Zm ?_
 refine Zv _ (fun _ fr => x_len Try.underlying40 rfl (fr.ev rfl)) ?_
 refine Zv (.bool true) (fun _ fr => x_eql rfl (fr.ev rfl) rfl (decide_eq_true (by omega))) ?_
 refine Znn ?_
 refine Zct ?_
 refine Zsr ?_
 refine Za ?_
 refine Znn ?_
 refine Zrt ?_
 refine Zr1 ?_
 refine Zre rfl [_] ⟨rfl, trivial⟩ ?_
 replace hF := hF.trNew hN6
 exact ⟨_, rfl, rfl, hF⟩
theorem evict_s {w : World} {Fp : Nat → Prop} {b : Nat} {id : Int} {n : Nat} {ways : Int} {L : List Ln} {ask : Option (Int × Bool)} {giv : Option Ln} (H : CacheAt w Fp b ⟨id, n, ways, L, ask, giv⟩) (pick : Int) (h0 : ¬ L.length = 0) (hx : ((allL n L).getD (pickAt pick (allL n L).length) ln0).state = 1) : Calls Try.prog 25 #[.pointer (some ⟨b, 0, none⟩), .int .i64 pick] w (Ret fun v w' => ∃ A' cap', v = .slice A' (([] : List Msg)).length cap' ∧ Own msgE w' A' cap' (([] : List Msg)) ∧ (∀ g, inA A' g → w.heap.size ≤ g) ∧ ∃ Fp', CacheAt w' Fp' b ⟨id, n, ways, dropL L ((allL n L).getD (pickAt pick (allL n L).length) ln0).num, ask, giv⟩ ∧ Only Fp w w' ∧ ∀ g, Fp' g → Fp g ∨ w.heap.size ≤ g) := by
 obtain ⟨lb, FpL, pa, pg, FpA, FpG, hB, hL, hA, hG, hP⟩ := H
 dsimp only at hB hL hA hG
 have ap_FpL_b := hP.lb
 have ap_FpA_b := hP.ab
 have ap_FpG_b := hP.gb
 have ap2_FpL_FpA := hP.la
 have ap2_FpL_FpG := hP.lg
 have ap2_FpA_FpG := hP.ag
 obtain ⟨hn1, hn2, hw1, hw2⟩ := hL.bd
 have gA_FpL : ∀ g, FpL g → Fp g ∨ w.heap.size ≤ g := fun g hg => .inl ((hP.foot g).2 (.inr (.inl hg)))
 have gA_FpA : ∀ g, FpA g → Fp g ∨ w.heap.size ≤ g := fun g hg => .inl ((hP.foot g).2 (.inr (.inr (.inl hg))))
 have gA_FpG : ∀ g, FpG g → Fp g ∨ w.heap.size ≤ g := fun g hg => .inl ((hP.foot g).2 (.inr (.inr (.inr hg))))
 have hlm := len_most hL.bd hL.fits
 have hal := allL_len hL.bd.1 L
 have hF := Only.refl (Fp) w
 refine Zen 32 Try.func25 ?_
 refine Zsr ?_
 refine Za ?_
 refine Znn ?_
 refine Zsr ?_
 refine Zm ?_
 refine Zk (args := #[.pointer (some ⟨b, 0, none⟩)]) cf30 (clines_c hB hL ap_FpL_b (by omega)) ?_
 rintro v w5 ⟨A1, cap2, rfl, O3, hA4, hN6⟩
 refine Za ?_
 refine Znn ?_
 refine Zsq ?_
 refine Zsq ?_
 have hlz : ¬ ((((allL n L).length) : Nat) : Int) = 0 := by omega
 refine Zrg ?_
 refine Zm ?_
 refine Zv _ (fun _ fr => x_len Try.underlying40 rfl (fr.ev rfl)) ?_
 refine Zv (.bool false) (fun _ fr => x_eql rfl (fr.ev rfl) rfl (decide_eq_false hlz)) ?_
 refine Znn ?_
 refine Zcf ?_
 refine Zsk ?_
 refine Znx ?_
 refine Zsq ?_
 have hps : 0 < (allL n L).length := by omega
 have htb := tmod_bd pick ((allL n L).length) hps
 have hpk := pickAt_lt pick ((allL n L).length) hps
 refine Zrg ?_
 refine Zm ?_
 refine Zm ?_
 refine Zm ?_
 refine Zm ?_
 refine Zv _ (fun _ fr => x_len Try.underlying40 rfl (fr.ev rfl)) ?_
 refine Zv (.int .i64 (Int.tmod pick (((allL n L).length : Nat) : Int))) (fun _ fr => x_rem rfl (fr.ev rfl) (fr.ev rfl) (by omega) rfl) ?_
 refine Zm ?_
 refine Zv _ (fun _ fr => x_len Try.underlying40 rfl (fr.ev rfl)) ?_
 refine Zv _ (fun _ fr => x_add rfl (fr.ev rfl) (fr.ev rfl) (i64w (r := Int.tmod pick (((allL n L).length : Nat) : Int) + (((allL n L).length : Nat) : Int)) (by omega) (by omega))) ?_
 refine Zm ?_
 refine Zv _ (fun _ fr => x_len Try.underlying40 rfl (fr.ev rfl)) ?_
 refine Zv (.int .i64 ((pickAt pick ((allL n L).length) : Nat) : Int)) (fun _ fr => x_rem rfl (fr.ev rfl) (fr.ev rfl) (by omega) (pickAt_eq pick ((allL n L).length) (by omega))) ?_
 obtain ⟨g7, o8, hA9⟩ := (O3.view).some_ (by omega)
 refine Zv (.pointer (some ⟨g7, o8 + (pickAt pick ((allL n L).length)) * 18, none⟩)) (fun _ fr => x_indexV Try.underlying40 sz39 rfl (fr.ev rfl) hA9 (fr.ev rfl) (by omega) rfl) ?_
 refine ZE lnE ag39 ((O3.view).elem hA9 (pickAt pick ((allL n L).length)) ln0 (by omega)) ?_
 replace hB := hB.new hN6
 replace hL := hL.new hN6
 refine Zk cf46 (out_s hB hL ap_FpL_b ((allL n L).getD (pickAt pick ((allL n L).length)) ln0) hx) ?_
 rintro v w14 ⟨rfl, hB10, Fp11, H12, mv13, hN15⟩
 have ap_Fp11_b : ¬ Fp11 b := moved_apartP mv13 ap_FpL_b hB.lt
 replace hA := hA.new hN6
 have ap2_Fp11_FpA : ∀ k, Fp11 k → FpA k → False := moved_apart2P mv13 ap2_FpL_FpA fun _ hg => hA.lt hg
 replace hG := hG.new hN6
 have ap2_Fp11_FpG : ∀ k, Fp11 k → FpG k → False := moved_apart2P mv13 ap2_FpL_FpG fun _ hg => hG.lt hg
 replace hF := hF.trNew hN6
 have gA_Fp11 := gA_movedP hF mv13 gA_FpL
 clear hL
 replace hB := hB10
 clear hB10
 refine Zm ?_
 refine Zt ?_
 refine Zt ?_
 refine Za ?_
 refine Za ?_
 refine Znn ?_
 refine Zsr ?_
 refine Zm ?_
 refine Za ?_
 refine Znn ?_
 refine Zrt ?_
 refine Zre rfl [_] ⟨rfl, trivial⟩ ?_
 replace hA := hA.only hN15 (fun g hg => (fun h => h.elim ((ne1P ap_FpA_b) g hg) ((fun g h1 h2 => (symP ap2_FpL_FpA) g h1 h2) g hg)))
 replace hG := hG.only hN15 (fun g hg => (fun h => h.elim ((ne1P ap_FpG_b) g hg) ((fun g h1 h2 => (symP ap2_FpL_FpG) g h1 h2) g hg)))
 replace hF := hF.locS hN15 (fun i => (fun h => h.elim (fun e => by rw [e]; exact (.inl ((hP.foot b).2 (.inl rfl)))) (fun h => gA_FpL i h)))
 exact ⟨_, rfl, none, 0, rfl, Own.nil, (fun g hg => absurd hg (apart_none g)), (fun k => k = b ∨ Fp11 k ∨ FpA k ∨ FpG k), ⟨lb, Fp11, _, _, FpA, FpG, hB, H12, hA, hG, ⟨ap_Fp11_b, ap_FpA_b, ap_FpG_b, ap2_Fp11_FpA, ap2_Fp11_FpG, ap2_FpA_FpG, fun _ => Iff.rfl⟩⟩, hF, (fun g hg => hg.elim (fun e => by rw [e]; exact .inl ((hP.foot b).2 (.inl rfl))) fun h => h.elim (gA_Fp11 g) fun h => h.elim (gA_FpA g) (gA_FpG g))⟩
theorem evict_p {w : World} {Fp : Nat → Prop} {b : Nat} {id : Int} {n : Nat} {ways : Int} {L : List Ln} {ask : Option (Int × Bool)} (H : CacheAt w Fp b ⟨id, n, ways, L, ask, none⟩) (pick : Int) (h0 : ¬ L.length = 0) (hx : ¬ ((allL n L).getD (pickAt pick (allL n L).length) ln0).state = 1) : Calls Try.prog 25 #[.pointer (some ⟨b, 0, none⟩), .int .i64 pick] w (Ret fun v w' => ∃ A' cap', v = .slice A' ([putM id ((allL n L).getD (pickAt pick (allL n L).length) ln0)]).length cap' ∧ Own msgE w' A' cap' ([putM id ((allL n L).getD (pickAt pick (allL n L).length) ln0)]) ∧ (∀ g, inA A' g → w.heap.size ≤ g) ∧ ∃ Fp', CacheAt w' Fp' b ⟨id, n, ways, dropL L ((allL n L).getD (pickAt pick (allL n L).length) ln0).num, ask, (some ((allL n L).getD (pickAt pick (allL n L).length) ln0))⟩ ∧ Only Fp w w' ∧ ∀ g, Fp' g → Fp g ∨ w.heap.size ≤ g) := by
 obtain ⟨lb, FpL, pa, pg, FpA, FpG, hB, hL, hA, hG, hP⟩ := H
 dsimp only at hB hL hA hG
 have ap_FpL_b := hP.lb
 have ap_FpA_b := hP.ab
 have ap2_FpL_FpA := hP.la
 obtain ⟨hn1, hn2, hw1, hw2⟩ := hL.bd
 have gA_FpL : ∀ g, FpL g → Fp g ∨ w.heap.size ≤ g := fun g hg => .inl ((hP.foot g).2 (.inr (.inl hg)))
 have gA_FpA : ∀ g, FpA g → Fp g ∨ w.heap.size ≤ g := fun g hg => .inl ((hP.foot g).2 (.inr (.inr (.inl hg))))
 have hlm := len_most hL.bd hL.fits
 have hal := allL_len hL.bd.1 L
 have hF := Only.refl (Fp) w
 refine Zen 32 Try.func25 ?_
 refine Zsr ?_
 refine Za ?_
 refine Znn ?_
 refine Zsq ?_
 obtain ⟨rfl, hG0⟩ := hG
 refine Zrg ?_
 refine Zm ?_
 refine Zk (args := #[.pointer (some ⟨b, 0, none⟩)]) cf30 (clines_c hB hL ap_FpL_b (by omega)) ?_
 rintro v w5 ⟨A1, cap2, rfl, O3, hA4, hN6⟩
 refine Za ?_
 refine Znn ?_
 refine Zsq ?_
 refine Zsq ?_
 have hlz : ¬ ((((allL n L).length) : Nat) : Int) = 0 := by omega
 refine Zrg ?_
 refine Zm ?_
 refine Zv _ (fun _ fr => x_len Try.underlying40 rfl (fr.ev rfl)) ?_
 refine Zv (.bool false) (fun _ fr => x_eql rfl (fr.ev rfl) rfl (decide_eq_false hlz)) ?_
 refine Znn ?_
 refine Zcf ?_
 refine Zsk ?_
 refine Znx ?_
 refine Zsq ?_
 have hps : 0 < (allL n L).length := by omega
 have htb := tmod_bd pick ((allL n L).length) hps
 have hpk := pickAt_lt pick ((allL n L).length) hps
 refine Zrg ?_
 refine Zm ?_
 refine Zm ?_
 refine Zm ?_
 refine Zm ?_
 refine Zv _ (fun _ fr => x_len Try.underlying40 rfl (fr.ev rfl)) ?_
 refine Zv (.int .i64 (Int.tmod pick (((allL n L).length : Nat) : Int))) (fun _ fr => x_rem rfl (fr.ev rfl) (fr.ev rfl) (by omega) rfl) ?_
 refine Zm ?_
 refine Zv _ (fun _ fr => x_len Try.underlying40 rfl (fr.ev rfl)) ?_
 refine Zv _ (fun _ fr => x_add rfl (fr.ev rfl) (fr.ev rfl) (i64w (r := Int.tmod pick (((allL n L).length : Nat) : Int) + (((allL n L).length : Nat) : Int)) (by omega) (by omega))) ?_
 refine Zm ?_
 refine Zv _ (fun _ fr => x_len Try.underlying40 rfl (fr.ev rfl)) ?_
 refine Zv (.int .i64 ((pickAt pick ((allL n L).length) : Nat) : Int)) (fun _ fr => x_rem rfl (fr.ev rfl) (fr.ev rfl) (by omega) (pickAt_eq pick ((allL n L).length) (by omega))) ?_
 obtain ⟨g7, o8, hA9⟩ := (O3.view).some_ (by omega)
 refine Zv (.pointer (some ⟨g7, o8 + (pickAt pick ((allL n L).length)) * 18, none⟩)) (fun _ fr => x_indexV Try.underlying40 sz39 rfl (fr.ev rfl) hA9 (fr.ev rfl) (by omega) rfl) ?_
 refine ZE lnE ag39 ((O3.view).elem hA9 (pickAt pick ((allL n L).length)) ln0 (by omega)) ?_
 replace hB := hB.new hN6
 replace hL := hL.new hN6
 refine Zk cf46 (out_n hB hL ap_FpL_b ((allL n L).getD (pickAt pick ((allL n L).length)) ln0) hx) ?_
 rintro v w21 ⟨A14, cap15, rfl, O16, hA17, b18, B19, hB10, hb20, Fp11, H12, mv13, ap_Fp11_b18, ap_A14_b18, ap2_Fp11_A14, hN22⟩
 have ap_Fp11_b : ¬ Fp11 b := moved_apartP mv13 ap_FpL_b hB.lt
 replace hA := hA.new hN6
 have ap2_Fp11_FpA : ∀ k, Fp11 k → FpA k → False := moved_apart2P mv13 ap2_FpL_FpA fun _ hg => hA.lt hg
 replace hF := hF.trNew hN6
 have gA_Fp11 := gA_movedP hF mv13 gA_FpL
 have ne_b_b18 : NE b b18 := NE.mk (Nat.lt_of_lt_of_le hB.lt hb20)
 have ap_FpA_b18 : ¬ FpA b18 := hA.apart hb20
 have g_b18 := Nat.le_trans hF.size hb20
 have gN_A14 := fun g (hg : inA A14 g) => Nat.le_trans hF.size (hA17 g hg)
 clear hL
 replace hB := hB10
 clear hB10
 have gi_b18 : Fp b18 ∨ w.heap.size ≤ b18 := .inr g_b18
 refine Zm ?_
 refine Zt ?_
 refine Zt ?_
 refine Za ?_
 refine Za ?_
 refine Znn ?_
 refine Zsr ?_
 refine Zm ?_
 refine Za ?_
 refine Znn ?_
 refine Zrt ?_
 refine Zre rfl [_] ⟨rfl, trivial⟩ ?_
 replace hA := hA.only hN22 (fun g hg => (fun h => h.elim ((ne1P ap_FpA_b) g hg) ((fun g h1 h2 => (symP ap2_FpL_FpA) g h1 h2) g hg)))
 replace hF := hF.locS hN22 (fun i => (fun h => h.elim (fun e => by rw [e]; exact (.inl ((hP.foot b).2 (.inl rfl)))) (fun h => gA_FpL i h)))
 exact ⟨_, rfl, A14, cap15, rfl, O16, gN_A14, (fun k => k = b ∨ Fp11 k ∨ FpA k ∨ (fun k => k = b18) k), ⟨lb, Fp11, _, _, FpA, (fun k => k = b18), hB, H12, hA, ⟨b18, rfl, B19, fun _ => Iff.rfl⟩, ⟨ap_Fp11_b, ap_FpA_b, (fun e => (show ¬ b = b18 from ne_b_b18) e), ap2_Fp11_FpA, (fun k hk e => ap_Fp11_b18 (e ▸ hk)), (fun k hk e => ap_FpA_b18 (e ▸ hk)), fun _ => Iff.rfl⟩⟩, hF, (fun g hg => hg.elim (fun e => by rw [e]; exact .inl ((hP.foot b).2 (.inl rfl))) fun h => h.elim (gA_Fp11 g) fun h => h.elim (gA_FpA g) (fun e => by rw [e]; exact gi_b18))⟩
theorem evict_b {w : World} {Fp : Nat → Prop} {b : Nat} {id : Int} {n : Nat} {ways : Int} {L : List Ln} {ask : Option (Int × Bool)} {gx : Ln} (H : CacheAt w Fp b ⟨id, n, ways, L, ask, (some gx)⟩) (pick : Int) (h0 : ¬ L.length = 0) (hx : ¬ ((allL n L).getD (pickAt pick (allL n L).length) ln0).state = 1) : Calls Try.prog 25 #[.pointer (some ⟨b, 0, none⟩), .int .i64 pick] w (Ret fun v w' => v = .slice none 0 0 ∧ New w w') := by
 obtain ⟨lb, FpL, pa, pg, FpA, FpG, hB, hL, hA, hG, hP⟩ := H
 dsimp only at hB hL hA hG
 have ap_FpL_b := hP.lb
 obtain ⟨hn1, hn2, hw1, hw2⟩ := hL.bd
 have gA_FpG := fun g (hg : FpG g) => (Or.inl trivial : True ∨ w.heap.size ≤ g)
 have hlm := len_most hL.bd hL.fits
 have hal := allL_len hL.bd.1 L
 have hF := Only.refl (fun _ => False) w
 refine Zen 32 Try.func25 ?_
 refine Zsr ?_
 refine Za ?_
 refine Znn ?_
 refine Zsq ?_
 obtain ⟨bg, rfl, hGB, hGF⟩ := hG
 have gi_bg := gA_FpG bg ((hGF bg).2 rfl)
 refine Zrg ?_
 refine Zm ?_
 refine Zk (args := #[.pointer (some ⟨b, 0, none⟩)]) cf30 (clines_c hB hL ap_FpL_b (by omega)) ?_
 rintro v w5 ⟨A1, cap2, rfl, O3, hA4, hN6⟩
 refine Za ?_
 refine Znn ?_
 refine Zsq ?_
 refine Zsq ?_
 have hlz : ¬ ((((allL n L).length) : Nat) : Int) = 0 := by omega
 refine Zrg ?_
 refine Zm ?_
 refine Zv _ (fun _ fr => x_len Try.underlying40 rfl (fr.ev rfl)) ?_
 refine Zv (.bool false) (fun _ fr => x_eql rfl (fr.ev rfl) rfl (decide_eq_false hlz)) ?_
 refine Znn ?_
 refine Zcf ?_
 refine Zsk ?_
 refine Znx ?_
 refine Zsq ?_
 have hps : 0 < (allL n L).length := by omega
 have htb := tmod_bd pick ((allL n L).length) hps
 have hpk := pickAt_lt pick ((allL n L).length) hps
 refine Zrg ?_
 refine Zm ?_
 refine Zm ?_
 refine Zm ?_
 refine Zm ?_
 refine Zv _ (fun _ fr => x_len Try.underlying40 rfl (fr.ev rfl)) ?_
 refine Zv (.int .i64 (Int.tmod pick (((allL n L).length : Nat) : Int))) (fun _ fr => x_rem rfl (fr.ev rfl) (fr.ev rfl) (by omega) rfl) ?_
 refine Zm ?_
 refine Zv _ (fun _ fr => x_len Try.underlying40 rfl (fr.ev rfl)) ?_
 refine Zv _ (fun _ fr => x_add rfl (fr.ev rfl) (fr.ev rfl) (i64w (r := Int.tmod pick (((allL n L).length : Nat) : Int) + (((allL n L).length : Nat) : Int)) (by omega) (by omega))) ?_
 refine Zm ?_
 refine Zv _ (fun _ fr => x_len Try.underlying40 rfl (fr.ev rfl)) ?_
 refine Zv (.int .i64 ((pickAt pick ((allL n L).length) : Nat) : Int)) (fun _ fr => x_rem rfl (fr.ev rfl) (fr.ev rfl) (by omega) (pickAt_eq pick ((allL n L).length) (by omega))) ?_
 obtain ⟨g7, o8, hA9⟩ := (O3.view).some_ (by omega)
 refine Zv (.pointer (some ⟨g7, o8 + (pickAt pick ((allL n L).length)) * 18, none⟩)) (fun _ fr => x_indexV Try.underlying40 sz39 rfl (fr.ev rfl) hA9 (fr.ev rfl) (by omega) rfl) ?_
 refine ZE lnE ag39 ((O3.view).elem hA9 (pickAt pick ((allL n L).length)) ln0 (by omega)) ?_
 replace hB := hB.new hN6
 replace hL := hL.new hN6
 refine Zk cf46 (out_b hB hL ap_FpL_b ((allL n L).getD (pickAt pick ((allL n L).length)) ln0) hx) ?_
 rintro v w10 ⟨rfl, hN11⟩
 refine Zm ?_
 refine Zt ?_
 refine Zt ?_
 refine Za ?_
 refine Za ?_
 refine Znn ?_
 refine Zsr ?_
 refine Zm ?_
 refine Za ?_
 refine Znn ?_
 refine Zrt ?_
 refine Zre rfl [_] ⟨rfl, trivial⟩ ?_
 replace hF := (hF.trNew hN6).trNew hN11
 exact ⟨_, rfl, rfl, hF⟩
end Go.Proofs.Ytflnlmibkbojcaa
namespace Go.Proofs.Ytflnlmibkbojcaa
open Go.RowKit
def TakeR (w : World) (Fp : Nat → Prop) (b : Nat) (r : CD × List Msg × Int) (v : Value) (w' : World) : Prop :=
  ∃ A' cap', v = .tuple #[.slice A' r.2.1.length cap', .int .i64 r.2.2] ∧ Own msgE w' A' cap' r.2.1 ∧ (∀ g, inA A' g → w.heap.size ≤ g) ∧ ∃ Fp', CacheAt w' Fp' b r.1 ∧ Only Fp w w' ∧ ∀ g, Fp' g → Fp g ∨ w.heap.size ≤ g
theorem takeR_no {w w' : World} {Fp : Nat → Prop} {b : Nat} {r : CD × List Msg × Int} {d : CD} {v : Value} (e : Int) (hr : r = (d, [], e)) (hv : v = .tuple #[.slice none 0 0, .int .i64 e]) (h : CacheAt w' Fp b d) (hn : New w w') : TakeR w Fp b r v w' := by
  subst hr hv
  exact ⟨none, 0, rfl, Own.nil, fun g hg => absurd hg (apart_none g), Fp, h, hn.mono fun _ _ h => h.elim, fun g hg => .inl hg⟩
theorem takeR_ok {w w' : World} {Fp : Nat → Prop} {b : Nat} {r : CD × List Msg × Int} {d2 : CD} {l : List Msg} {v : Value} (hr : r = (d2, l, 0)) (h : ∃ A' cap', v = .tuple #[.slice A' l.length cap', .int .i64 0] ∧ Own msgE w' A' cap' l ∧ (∀ g, inA A' g → w.heap.size ≤ g) ∧ ∃ Fp', CacheAt w' Fp' b d2 ∧ Only Fp w w' ∧ ∀ g, Fp' g → Fp g ∨ w.heap.size ≤ g) : TakeR w Fp b r v w' := by
  subst hr
  exact h
theorem chk_kind {m : Msg} (h : chk m = 0) (hd : m.dst ≠ 4) : cacheK m.kind = true := by
  unfold chk goodMsg at h
  simp [hd] at h
  exact h.1
theorem take_6 {w : World} {Fp : Nat → Prop} {b : Nat} {id : Int} {n : Nat} {ways : Int} {L : List Ln} {ask : Option (Int × Bool)} {giv : Option Ln} (H : CacheAt w Fp b ⟨id, n, ways, L, ask, giv⟩) (m : Msg) (hck : chk m = 0) (hdn : m.dst = id) (hk : m.kind = 6) : Calls Try.prog 14 #[.pointer (some ⟨b, 0, none⟩), .agg (msgE.arr m)] w (Ret fun v w' => TakeR w Fp b (takeF ⟨id, n, ways, L, ask, giv⟩ m) v w') := by
  have h0 : ¬ (chk m ≠ 0 ∨ m.dst ≠ id) := fun h => h.elim (fun h => h hck) (fun h => h hdn)
  have e8 : ¬ (m.kind = 8 ∨ m.kind = 9 ∨ m.kind = 10) := by omega
  have e4 : ¬ (m.kind = 4 ∨ m.kind = 5) := by omega
  cases hw : writesB (stateOf L m.line) with
  | true =>
    refine (take_pan H m hck hdn (f := 52) Try.func52 nm52 rfl (by rw [hk]; rfl) fun w1 hn hC => drop_no hC m hw).mono ?_
    rintro e w' ⟨v, rfl, hv, hC, hn⟩
    exact ⟨v, rfl, takeR_no 220 (by unfold takeF; rw [if_neg h0, if_neg e8, if_neg e4, if_pos hk, if_pos hw]) hv hC hn⟩
  | false =>
    refine (take_ret H m hck hdn (f := 52) Try.func52 nm52 rfl (by rw [hk]; rfl) fun w1 hO hC => drop_ok hC m hw).mono ?_
    rintro e w' ⟨v, rfl, hv⟩
    exact ⟨v, rfl, takeR_ok (by unfold takeF; rw [if_neg h0, if_neg e8, if_neg e4, if_pos hk, if_neg (by rw [hw]; decide)]) hv⟩
theorem take_7 {w : World} {Fp : Nat → Prop} {b : Nat} {id : Int} {n : Nat} {ways : Int} {L : List Ln} {ask : Option (Int × Bool)} {giv : Option Ln} (H : CacheAt w Fp b ⟨id, n, ways, L, ask, giv⟩) (m : Msg) (hck : chk m = 0) (hdn : m.dst = id) (hk : m.kind = 7) : Calls Try.prog 14 #[.pointer (some ⟨b, 0, none⟩), .agg (msgE.arr m)] w (Ret fun v w' => TakeR w Fp b (takeF ⟨id, n, ways, L, ask, giv⟩ m) v w') := by
  have h0 : ¬ (chk m ≠ 0 ∨ m.dst ≠ id) := fun h => h.elim (fun h => h hck) (fun h => h hdn)
  have e8 : ¬ (m.kind = 8 ∨ m.kind = 9 ∨ m.kind = 10) := by omega
  have e4 : ¬ (m.kind = 4 ∨ m.kind = 5) := by omega
  have e6 : ¬ m.kind = 6 := by omega
  cases giv with
  | none =>
    refine (take_pan H m hck hdn (f := 53) Try.func53 nm53 rfl (by rw [hk]; rfl) fun w1 hn hC => acked_none hC m).mono ?_
    rintro e w' ⟨v, rfl, hv, hC, hn⟩
    exact ⟨v, rfl, takeR_no 220 (by unfold takeF; rw [if_neg h0, if_neg e8, if_neg e4, if_neg e6, if_neg (by simp [mine])]) hv hC hn⟩
  | some gx =>
    by_cases hg : gx.num = m.line
    · refine (take_ret H m hck hdn (f := 53) Try.func53 nm53 rfl (by rw [hk]; rfl) fun w1 hO hC => acked_ok hC m hg).mono ?_
      rintro e w' ⟨v, rfl, hv⟩
      exact ⟨v, rfl, takeR_ok (by unfold takeF; rw [if_neg h0, if_neg e8, if_neg e4, if_neg e6, if_pos (by simp [mine, hg])]) hv⟩
    · refine (take_pan H m hck hdn (f := 53) Try.func53 nm53 rfl (by rw [hk]; rfl) fun w1 hn hC => acked_ne hC m hg).mono ?_
      rintro e w' ⟨v, rfl, hv, hC, hn⟩
      exact ⟨v, rfl, takeR_no 220 (by unfold takeF; rw [if_neg h0, if_neg e8, if_neg e4, if_neg e6, if_neg (by simp [mine, hg])]) hv hC hn⟩
theorem take_4 {w : World} {Fp : Nat → Prop} {b : Nat} {id : Int} {n : Nat} {ways : Int} {L : List Ln} {ask : Option (Int × Bool)} {giv : Option Ln} (H : CacheAt w Fp b ⟨id, n, ways, L, ask, giv⟩) (m : Msg) (hck : chk m = 0) (hdn : m.dst = id) (hk : m.kind = 4) : Calls Try.prog 14 #[.pointer (some ⟨b, 0, none⟩), .agg (msgE.arr m)] w (Ret fun v w' => TakeR w Fp b (takeF ⟨id, n, ways, L, ask, giv⟩ m) v w') := by
  have h0 : ¬ (chk m ≠ 0 ∨ m.dst ≠ id) := fun h => h.elim (fun h => h hck) (fun h => h hdn)
  have e8 : ¬ (m.kind = 8 ∨ m.kind = 9 ∨ m.kind = 10) := by omega
  have e4 : m.kind = 4 ∨ m.kind = 5 := by omega
  cases giv with
  | none =>
    cases hw : writesB (stateOf L m.line) with
    | true =>
      refine (take_ret H m hck hdn (f := 51) Try.func51 nm51 rfl (by rw [hk]; rfl) fun w1 hO hC => back_sn hC m hw hk).mono ?_
      rintro e w' ⟨v, rfl, hv⟩
      exact ⟨v, rfl, takeR_ok (by unfold takeF; rw [if_neg h0, if_neg e8, if_pos e4]; show takeF.backF _ m = _; unfold takeF.backF; rw [if_pos hw, if_pos hk]) hv⟩
    | false =>
      refine (take_pan H m hck hdn (f := 51) Try.func51 nm51 rfl (by rw [hk]; rfl) fun w1 hn hC => back_non hC m hw).mono ?_
      rintro e w' ⟨v, rfl, hv, hC, hn⟩
      exact ⟨v, rfl, takeR_no 220 (by unfold takeF; rw [if_neg h0, if_neg e8, if_pos e4]; show takeF.backF _ m = _; unfold takeF.backF; rw [if_neg (by rw [hw]; decide)]) hv hC hn⟩
  | some gx =>
    by_cases hg : gx.num = m.line
    · refine (take_ret H m hck hdn (f := 51) Try.func51 nm51 rfl (by rw [hk]; rfl) fun w1 hO hC => (back_g hC m hg).mono (by rintro e w' ⟨v, rfl, A, c, hv, hO, hA, hn⟩; exact ⟨v, rfl, A, c, hv, hO, hA, Fp, hC.new hn, hn.mono fun _ _ h => h.elim, fun g hg => .inl hg⟩)).mono ?_
      rintro e w' ⟨v, rfl, hv⟩
      exact ⟨v, rfl, takeR_ok (by unfold takeF; rw [if_neg h0, if_neg e8, if_pos e4]; show (if gx.num = m.line then _ else _) = _; rw [if_pos hg]) hv⟩
    · cases hw : writesB (stateOf L m.line) with
      | true =>
        refine (take_ret H m hck hdn (f := 51) Try.func51 nm51 rfl (by rw [hk]; rfl) fun w1 hO hC => back_sg hC m hg hw hk).mono ?_
        rintro e w' ⟨v, rfl, hv⟩
        exact ⟨v, rfl, takeR_ok (by unfold takeF; rw [if_neg h0, if_neg e8, if_pos e4]; show (if gx.num = m.line then _ else _) = _; rw [if_neg hg]; show takeF.backF _ m = _; unfold takeF.backF; rw [if_pos hw, if_pos hk]) hv⟩
      | false =>
        refine (take_pan H m hck hdn (f := 51) Try.func51 nm51 rfl (by rw [hk]; rfl) fun w1 hn hC => back_nog hC m hg hw).mono ?_
        rintro e w' ⟨v, rfl, hv, hC, hn⟩
        exact ⟨v, rfl, takeR_no 220 (by unfold takeF; rw [if_neg h0, if_neg e8, if_pos e4]; show (if gx.num = m.line then _ else _) = _; rw [if_neg hg]; show takeF.backF _ m = _; unfold takeF.backF; rw [if_neg (by rw [hw]; decide)]) hv hC hn⟩
theorem take_5 {w : World} {Fp : Nat → Prop} {b : Nat} {id : Int} {n : Nat} {ways : Int} {L : List Ln} {ask : Option (Int × Bool)} {giv : Option Ln} (H : CacheAt w Fp b ⟨id, n, ways, L, ask, giv⟩) (m : Msg) (hck : chk m = 0) (hdn : m.dst = id) (hk : m.kind = 5) : Calls Try.prog 14 #[.pointer (some ⟨b, 0, none⟩), .agg (msgE.arr m)] w (Ret fun v w' => TakeR w Fp b (takeF ⟨id, n, ways, L, ask, giv⟩ m) v w') := by
  have h0 : ¬ (chk m ≠ 0 ∨ m.dst ≠ id) := fun h => h.elim (fun h => h hck) (fun h => h hdn)
  have e8 : ¬ (m.kind = 8 ∨ m.kind = 9 ∨ m.kind = 10) := by omega
  have e4 : m.kind = 4 ∨ m.kind = 5 := by omega
  have h44 : ¬ m.kind = 4 := by omega
  cases giv with
  | none =>
    cases hw : writesB (stateOf L m.line) with
    | true =>
      refine (take_ret H m hck hdn (f := 51) Try.func51 nm51 rfl (by rw [hk]; rfl) fun w1 hO hC => back_dn hC m hw h44).mono ?_
      rintro e w' ⟨v, rfl, hv⟩
      exact ⟨v, rfl, takeR_ok (by unfold takeF; rw [if_neg h0, if_neg e8, if_pos e4]; show takeF.backF _ m = _; unfold takeF.backF; rw [if_pos hw, if_neg h44]) hv⟩
    | false =>
      refine (take_pan H m hck hdn (f := 51) Try.func51 nm51 rfl (by rw [hk]; rfl) fun w1 hn hC => back_non hC m hw).mono ?_
      rintro e w' ⟨v, rfl, hv, hC, hn⟩
      exact ⟨v, rfl, takeR_no 220 (by unfold takeF; rw [if_neg h0, if_neg e8, if_pos e4]; show takeF.backF _ m = _; unfold takeF.backF; rw [if_neg (by rw [hw]; decide)]) hv hC hn⟩
  | some gx =>
    by_cases hg : gx.num = m.line
    · refine (take_ret H m hck hdn (f := 51) Try.func51 nm51 rfl (by rw [hk]; rfl) fun w1 hO hC => (back_g hC m hg).mono (by rintro e w' ⟨v, rfl, A, c, hv, hO, hA, hn⟩; exact ⟨v, rfl, A, c, hv, hO, hA, Fp, hC.new hn, hn.mono fun _ _ h => h.elim, fun g hg => .inl hg⟩)).mono ?_
      rintro e w' ⟨v, rfl, hv⟩
      exact ⟨v, rfl, takeR_ok (by unfold takeF; rw [if_neg h0, if_neg e8, if_pos e4]; show (if gx.num = m.line then _ else _) = _; rw [if_pos hg]) hv⟩
    · cases hw : writesB (stateOf L m.line) with
      | true =>
        refine (take_ret H m hck hdn (f := 51) Try.func51 nm51 rfl (by rw [hk]; rfl) fun w1 hO hC => back_dg hC m hg hw h44).mono ?_
        rintro e w' ⟨v, rfl, hv⟩
        exact ⟨v, rfl, takeR_ok (by unfold takeF; rw [if_neg h0, if_neg e8, if_pos e4]; show (if gx.num = m.line then _ else _) = _; rw [if_neg hg]; show takeF.backF _ m = _; unfold takeF.backF; rw [if_pos hw, if_neg h44]) hv⟩
      | false =>
        refine (take_pan H m hck hdn (f := 51) Try.func51 nm51 rfl (by rw [hk]; rfl) fun w1 hn hC => back_nog hC m hg hw).mono ?_
        rintro e w' ⟨v, rfl, hv, hC, hn⟩
        exact ⟨v, rfl, takeR_no 220 (by unfold takeF; rw [if_neg h0, if_neg e8, if_pos e4]; show (if gx.num = m.line then _ else _) = _; rw [if_neg hg]; show takeF.backF _ m = _; unfold takeF.backF; rw [if_neg (by rw [hw]; decide)]) hv hC hn⟩
theorem take_8 {w : World} {Fp : Nat → Prop} {b : Nat} {id : Int} {n : Nat} {ways : Int} {L : List Ln} {ask : Option (Int × Bool)} {giv : Option Ln} (H : CacheAt w Fp b ⟨id, n, ways, L, ask, giv⟩) (m : Msg) (hck : chk m = 0) (hdn : m.dst = id) (hk : m.kind = 8) (hroom : dataOk ⟨id, n, ways, L, ask, giv⟩ m = true → putE n ways L (dataLn m) = 0) : Calls Try.prog 14 #[.pointer (some ⟨b, 0, none⟩), .agg (msgE.arr m)] w (Ret fun v w' => TakeR w Fp b (takeF ⟨id, n, ways, L, ask, giv⟩ m) v w') := by
  have h0 : ¬ (chk m ≠ 0 ∨ m.dst ≠ id) := fun h => h.elim (fun h => h hck) (fun h => h hdn)
  have e8 : m.kind = 8 ∨ m.kind = 9 ∨ m.kind = 10 := by omega
  have hl : dataLn m = mkL m.line 1 m.bs m.hn := by unfold dataLn; rw [if_pos hk]
  rcases ask with _ | ⟨al, aw⟩
  · refine (take_pan H m hck hdn (f := 50) Try.func50 nm50 rfl (by rw [hk]; rfl) fun w1 hn hC => data_none hC m).mono ?_
    rintro e w' ⟨v, rfl, hv, hC, hn⟩
    exact ⟨v, rfl, takeR_no 220 (by unfold takeF; rw [if_neg h0, if_pos e8, if_neg (fun h => by have h9 := h.1; simp [dataOk] at h9)]) hv hC hn⟩
  · by_cases ha : al = m.line
    · cases hw : (aw == decide (m.kind = 10)) with
      | false =>
        refine (take_pan H m hck hdn (f := 50) Try.func50 nm50 rfl (by rw [hk]; rfl) fun w1 hn hC => data_w hC m ha hw).mono ?_
        rintro e w' ⟨v, rfl, hv, hC, hn⟩
        exact ⟨v, rfl, takeR_no 220 (by unfold takeF; rw [if_neg h0, if_pos e8, if_neg (fun h => by have h9 : (decide (al = m.line) && (aw == decide (m.kind = 10))) = true := h.1; rw [hw] at h9; simp at h9)]) hv hC hn⟩
      | true =>
        have hdk : dataOk ⟨id, n, ways, L, some (al, aw), giv⟩ m = true := by show (decide (al = m.line) && (aw == decide (m.kind = 10))) = true; rw [decide_eq_true ha, hw]; rfl
        have hp := hroom hdk
        have hp2 := hp
        rw [hl] at hp2
        have hw8 : (aw == false) = true := by have h9 := hw; rw [hk] at h9; simpa using h9
        refine (take_ret H m hck hdn (f := 50) Try.func50 nm50 rfl (by rw [hk]; rfl) fun w1 hO hC => data_s hC m ha hw8 hk hp2).mono ?_
        rintro e w' ⟨v, rfl, hv⟩
        exact ⟨v, rfl, takeR_ok (by unfold takeF; rw [if_neg h0, if_pos e8, if_pos ⟨hdk, hp⟩, hl]) hv⟩
    · refine (take_pan H m hck hdn (f := 50) Try.func50 nm50 rfl (by rw [hk]; rfl) fun w1 hn hC => data_ne hC m ha).mono ?_
      rintro e w' ⟨v, rfl, hv, hC, hn⟩
      exact ⟨v, rfl, takeR_no 220 (by unfold takeF; rw [if_neg h0, if_pos e8, if_neg (fun h => by have h9 := h.1; simp [dataOk, ha] at h9)]) hv hC hn⟩
theorem take_9 {w : World} {Fp : Nat → Prop} {b : Nat} {id : Int} {n : Nat} {ways : Int} {L : List Ln} {ask : Option (Int × Bool)} {giv : Option Ln} (H : CacheAt w Fp b ⟨id, n, ways, L, ask, giv⟩) (m : Msg) (hck : chk m = 0) (hdn : m.dst = id) (hk : m.kind = 9) (hroom : dataOk ⟨id, n, ways, L, ask, giv⟩ m = true → putE n ways L (dataLn m) = 0) : Calls Try.prog 14 #[.pointer (some ⟨b, 0, none⟩), .agg (msgE.arr m)] w (Ret fun v w' => TakeR w Fp b (takeF ⟨id, n, ways, L, ask, giv⟩ m) v w') := by
  have h0 : ¬ (chk m ≠ 0 ∨ m.dst ≠ id) := fun h => h.elim (fun h => h hck) (fun h => h hdn)
  have e8 : m.kind = 8 ∨ m.kind = 9 ∨ m.kind = 10 := by omega
  have h88 : ¬ m.kind = 8 := by omega
  have hl : dataLn m = mkL m.line 2 m.bs m.hn := by unfold dataLn; rw [if_neg h88]
  rcases ask with _ | ⟨al, aw⟩
  · refine (take_pan H m hck hdn (f := 50) Try.func50 nm50 rfl (by rw [hk]; rfl) fun w1 hn hC => data_none hC m).mono ?_
    rintro e w' ⟨v, rfl, hv, hC, hn⟩
    exact ⟨v, rfl, takeR_no 220 (by unfold takeF; rw [if_neg h0, if_pos e8, if_neg (fun h => by have h9 := h.1; simp [dataOk] at h9)]) hv hC hn⟩
  · by_cases ha : al = m.line
    · cases hw : (aw == decide (m.kind = 10)) with
      | false =>
        refine (take_pan H m hck hdn (f := 50) Try.func50 nm50 rfl (by rw [hk]; rfl) fun w1 hn hC => data_w hC m ha hw).mono ?_
        rintro e w' ⟨v, rfl, hv, hC, hn⟩
        exact ⟨v, rfl, takeR_no 220 (by unfold takeF; rw [if_neg h0, if_pos e8, if_neg (fun h => by have h9 : (decide (al = m.line) && (aw == decide (m.kind = 10))) = true := h.1; rw [hw] at h9; simp at h9)]) hv hC hn⟩
      | true =>
        have hdk : dataOk ⟨id, n, ways, L, some (al, aw), giv⟩ m = true := by show (decide (al = m.line) && (aw == decide (m.kind = 10))) = true; rw [decide_eq_true ha, hw]; rfl
        have hp := hroom hdk
        have hp2 := hp
        rw [hl] at hp2
        refine (take_ret H m hck hdn (f := 50) Try.func50 nm50 rfl (by rw [hk]; rfl) fun w1 hO hC => data_e hC m ha hw h88 hp2).mono ?_
        rintro e w' ⟨v, rfl, hv⟩
        exact ⟨v, rfl, takeR_ok (by unfold takeF; rw [if_neg h0, if_pos e8, if_pos ⟨hdk, hp⟩, hl]) hv⟩
    · refine (take_pan H m hck hdn (f := 50) Try.func50 nm50 rfl (by rw [hk]; rfl) fun w1 hn hC => data_ne hC m ha).mono ?_
      rintro e w' ⟨v, rfl, hv, hC, hn⟩
      exact ⟨v, rfl, takeR_no 220 (by unfold takeF; rw [if_neg h0, if_pos e8, if_neg (fun h => by have h9 := h.1; simp [dataOk, ha] at h9)]) hv hC hn⟩
theorem take_10 {w : World} {Fp : Nat → Prop} {b : Nat} {id : Int} {n : Nat} {ways : Int} {L : List Ln} {ask : Option (Int × Bool)} {giv : Option Ln} (H : CacheAt w Fp b ⟨id, n, ways, L, ask, giv⟩) (m : Msg) (hck : chk m = 0) (hdn : m.dst = id) (hk : m.kind = 10) (hroom : dataOk ⟨id, n, ways, L, ask, giv⟩ m = true → putE n ways L (dataLn m) = 0) : Calls Try.prog 14 #[.pointer (some ⟨b, 0, none⟩), .agg (msgE.arr m)] w (Ret fun v w' => TakeR w Fp b (takeF ⟨id, n, ways, L, ask, giv⟩ m) v w') := by
  have h0 : ¬ (chk m ≠ 0 ∨ m.dst ≠ id) := fun h => h.elim (fun h => h hck) (fun h => h hdn)
  have e8 : m.kind = 8 ∨ m.kind = 9 ∨ m.kind = 10 := by omega
  have h88 : ¬ m.kind = 8 := by omega
  have hl : dataLn m = mkL m.line 2 m.bs m.hn := by unfold dataLn; rw [if_neg h88]
  rcases ask with _ | ⟨al, aw⟩
  · refine (take_pan H m hck hdn (f := 50) Try.func50 nm50 rfl (by rw [hk]; rfl) fun w1 hn hC => data_none hC m).mono ?_
    rintro e w' ⟨v, rfl, hv, hC, hn⟩
    exact ⟨v, rfl, takeR_no 220 (by unfold takeF; rw [if_neg h0, if_pos e8, if_neg (fun h => by have h9 := h.1; simp [dataOk] at h9)]) hv hC hn⟩
  · by_cases ha : al = m.line
    · cases hw : (aw == decide (m.kind = 10)) with
      | false =>
        refine (take_pan H m hck hdn (f := 50) Try.func50 nm50 rfl (by rw [hk]; rfl) fun w1 hn hC => data_w hC m ha hw).mono ?_
        rintro e w' ⟨v, rfl, hv, hC, hn⟩
        exact ⟨v, rfl, takeR_no 220 (by unfold takeF; rw [if_neg h0, if_pos e8, if_neg (fun h => by have h9 : (decide (al = m.line) && (aw == decide (m.kind = 10))) = true := h.1; rw [hw] at h9; simp at h9)]) hv hC hn⟩
      | true =>
        have hdk : dataOk ⟨id, n, ways, L, some (al, aw), giv⟩ m = true := by show (decide (al = m.line) && (aw == decide (m.kind = 10))) = true; rw [decide_eq_true ha, hw]; rfl
        have hp := hroom hdk
        have hp2 := hp
        rw [hl] at hp2
        refine (take_ret H m hck hdn (f := 50) Try.func50 nm50 rfl (by rw [hk]; rfl) fun w1 hO hC => data_e hC m ha hw h88 hp2).mono ?_
        rintro e w' ⟨v, rfl, hv⟩
        exact ⟨v, rfl, takeR_ok (by unfold takeF; rw [if_neg h0, if_pos e8, if_pos ⟨hdk, hp⟩, hl]) hv⟩
    · refine (take_pan H m hck hdn (f := 50) Try.func50 nm50 rfl (by rw [hk]; rfl) fun w1 hn hC => data_ne hC m ha).mono ?_
      rintro e w' ⟨v, rfl, hv, hC, hn⟩
      exact ⟨v, rfl, takeR_no 220 (by unfold takeF; rw [if_neg h0, if_pos e8, if_neg (fun h => by have h9 := h.1; simp [dataOk, ha] at h9)]) hv hC hn⟩
theorem take_c {w : World} {Fp : Nat → Prop} {b : Nat} {id : Int} {n : Nat} {ways : Int} {L : List Ln} {ask : Option (Int × Bool)} {giv : Option Ln} (H : CacheAt w Fp b ⟨id, n, ways, L, ask, giv⟩) (m : Msg) (hid : 0 ≤ id ∧ id < 4) (hroom : dataOk ⟨id, n, ways, L, ask, giv⟩ m = true → putE n ways L (dataLn m) = 0) : Calls Try.prog 14 #[.pointer (some ⟨b, 0, none⟩), .agg (msgE.arr m)] w (Ret fun v w' => TakeR w Fp b (takeF ⟨id, n, ways, L, ask, giv⟩ m) v w') := by
  by_cases h1 : chk m ≠ 0
  · refine (take_a1 H m h1).mono ?_
    rintro e w' ⟨v, rfl, hv, hC, hn⟩
    exact ⟨v, rfl, takeR_no 2 (by unfold takeF; rw [if_pos (.inl h1)]) hv hC hn⟩
  by_cases h2 : m.dst ≠ id
  · refine (take_a2 H m h1 h2).mono ?_
    rintro e w' ⟨v, rfl, hv, hC, hn⟩
    exact ⟨v, rfl, takeR_no 2 (by unfold takeF; rw [if_pos (.inr h2)]) hv hC hn⟩
  have hck : chk m = 0 := Decidable.not_not.1 h1
  have hdn : m.dst = id := Decidable.not_not.1 h2
  have hc := chk_kind hck (by rw [hdn]; omega)
  unfold cacheK at hc
  simp only [Bool.or_eq_true, decide_eq_true_eq] at hc
  rcases hc with (((((hk | hk) | hk) | hk) | hk) | hk) | hk
  · exact take_4 H m hck hdn hk
  · exact take_5 H m hck hdn hk
  · exact take_6 H m hck hdn hk
  · exact take_7 H m hck hdn hk
  · exact take_8 H m hck hdn hk hroom
  · exact take_9 H m hck hdn hk hroom
  · exact take_10 H m hck hdn hk hroom
end Go.Proofs.Ytflnlmibkbojcaa
namespace Go.Proofs.Ytflnlmibkbojcaa
open Go.RowKit
def EvictR (w : World) (Fp : Nat → Prop) (b : Nat) (r : CD × List Msg) (v : Value) (w' : World) : Prop :=
  ∃ A' cap', v = .slice A' r.2.length cap' ∧ Own msgE w' A' cap' r.2 ∧ (∀ g, inA A' g → w.heap.size ≤ g) ∧ ∃ Fp', CacheAt w' Fp' b r.1 ∧ Only Fp w w' ∧ ∀ g, Fp' g → Fp g ∨ w.heap.size ≤ g
theorem evictR_no {w w' : World} {Fp : Nat → Prop} {b : Nat} {r : CD × List Msg} {d : CD} {v : Value} (hr : r = (d, [])) (hv : v = .slice none 0 0) (h : CacheAt w Fp b d) (hn : New w w') : EvictR w Fp b r v w' := by
  subst hr hv
  exact ⟨none, 0, rfl, Own.nil, fun g hg => absurd hg (apart_none g), Fp, h.new hn, hn.mono fun _ _ h => h.elim, fun g hg => .inl hg⟩
theorem evictR_ok {w w' : World} {Fp : Nat → Prop} {b : Nat} {r : CD × List Msg} {d2 : CD} {l : List Msg} {v : Value} (hr : r = (d2, l)) (h : ∃ A' cap', v = .slice A' l.length cap' ∧ Own msgE w' A' cap' l ∧ (∀ g, inA A' g → w.heap.size ≤ g) ∧ ∃ Fp', CacheAt w' Fp' b d2 ∧ Only Fp w w' ∧ ∀ g, Fp' g → Fp g ∨ w.heap.size ≤ g) : EvictR w Fp b r v w' := by
  subst hr
  exact h
theorem evict_c {w : World} {Fp : Nat → Prop} {b : Nat} {id : Int} {n : Nat} {ways : Int} {L : List Ln} {ask : Option (Int × Bool)} {giv : Option Ln} (H : CacheAt w Fp b ⟨id, n, ways, L, ask, giv⟩) (pick : Int) : Calls Try.prog 25 #[.pointer (some ⟨b, 0, none⟩), .int .i64 pick] w (Ret fun v w' => EvictR w Fp b (evictF ⟨id, n, ways, L, ask, giv⟩ pick) v w') := by
  by_cases h0 : L.length = 0
  · have hL : L = [] := List.length_eq_zero_iff.1 h0
    refine (evict_e H pick h0).mono ?_
    rintro e w' ⟨v, rfl, hv, hn⟩
    exact ⟨v, rfl, evictR_no (by unfold evictF; exact if_pos hL) hv H hn⟩
  have hne : ¬ L = [] := fun h => h0 (by rw [h]; rfl)
  have hal := allL_len H.bd.1 L
  have hr : evictF ⟨id, n, ways, L, ask, giv⟩ pick = ((outF ⟨id, n, ways, L, ask, giv⟩ ((allL n L).getD (pickAt pick (allL n L).length) ln0)).1, (outF ⟨id, n, ways, L, ask, giv⟩ ((allL n L).getD (pickAt pick (allL n L).length) ln0)).2.1) := by
    unfold evictF
    rw [if_neg hne]
    show ((outF ⟨id, n, ways, L, ask, giv⟩ ((allL n L).getD (pickAt pick L.length) ln0)).1, (outF ⟨id, n, ways, L, ask, giv⟩ ((allL n L).getD (pickAt pick L.length) ln0)).2.1) = _
    rw [show L.length = (allL n L).length from hal.symm]
  by_cases hx : ((allL n L).getD (pickAt pick (allL n L).length) ln0).state = 1
  · refine (evict_s H pick h0 hx).mono ?_
    rintro e w' ⟨v, rfl, hv⟩
    exact ⟨v, rfl, evictR_ok (by rw [hr]; unfold outF; rw [if_pos hx]) hv⟩
  cases giv with
  | none =>
    refine (evict_p H pick h0 hx).mono ?_
    rintro e w' ⟨v, rfl, hv⟩
    exact ⟨v, rfl, evictR_ok (by rw [hr]; unfold outF; rw [if_neg hx]) hv⟩
  | some gx =>
    refine (evict_b H pick h0 hx).mono ?_
    rintro e w' ⟨v, rfl, hv, hn⟩
    exact ⟨v, rfl, evictR_no (by rw [hr]; unfold outF; rw [if_neg hx]) hv H hn⟩
end Go.Proofs.Ytflnlmibkbojcaa
namespace Go.Proofs.Ytflnlmibkbojcaa
open Go.RowKit
theorem ask_rn {w : World} {Fp : Nat → Prop} {b : Nat} {id : Int} {n : Nat} {ways : Int} {L : List Ln} (H : CacheAt w Fp b ⟨id, n, ways, L, none, none⟩) (line : Int) (hln : 0 ≤ line ∧ line < 4294967296) (pick : Int) : Calls Try.prog 13 #[.pointer (some ⟨b, 0, none⟩), .int .u32 line, .bool false, .int .i64 pick] w (Ret fun v w' => TakeR w Fp b (askF ⟨id, n, ways, L, none, none⟩ line hln false pick) v w') := by
  have c1 : ¬ ((none : Option (Int × Bool)).isSome = true ∨ mine none line = true) := by simp [mine]
  by_cases hs : stateOf L line ≠ 0
  · refine (ask_trn H line hln pick hs).mono ?_
    rintro e w' ⟨v, rfl, hv9, hn⟩
    exact ⟨v, rfl, takeR_no 231 (by unfold askF; rw [if_neg c1, if_pos ⟨hs, .inl rfl⟩]) hv9 (H.new hn) hn⟩
  · have c2 : ¬ (stateOf L line ≠ 0 ∧ (false = false ∨ writesB (stateOf L line) = true)) := fun h => hs h.1
    cases hv : vicL n ways L line pick with
    | none =>
      refine (ask_nr0n H line hln pick hs hv).mono ?_
      rintro e w' ⟨v, rfl, hv9⟩
      exact ⟨v, rfl, takeR_ok (by unfold askF; rw [if_neg c1, if_neg c2]; simp only [hv]) hv9⟩
    | some vx =>
      by_cases hx : vx.state = 1
      · refine (ask_sr0n H line hln pick hs vx hv hx).mono ?_
        rintro e w' ⟨v, rfl, hv9⟩
        exact ⟨v, rfl, takeR_ok (by unfold askF; rw [if_neg c1, if_neg c2]; simp only [hv]; simp [outF, hx]) hv9⟩
      · refine (ask_pr0n H line hln pick hs vx hv hx).mono ?_
        rintro e w' ⟨v, rfl, hv9⟩
        exact ⟨v, rfl, takeR_ok (by unfold askF; rw [if_neg c1, if_neg c2]; simp only [hv]; simp [outF, hx]) hv9⟩
theorem ask_wn {w : World} {Fp : Nat → Prop} {b : Nat} {id : Int} {n : Nat} {ways : Int} {L : List Ln} (H : CacheAt w Fp b ⟨id, n, ways, L, none, none⟩) (line : Int) (hln : 0 ≤ line ∧ line < 4294967296) (pick : Int) : Calls Try.prog 13 #[.pointer (some ⟨b, 0, none⟩), .int .u32 line, .bool true, .int .i64 pick] w (Ret fun v w' => TakeR w Fp b (askF ⟨id, n, ways, L, none, none⟩ line hln true pick) v w') := by
  have c1 : ¬ ((none : Option (Int × Bool)).isSome = true ∨ mine none line = true) := by simp [mine]
  by_cases hs : stateOf L line ≠ 0
  · cases hw : writesB (stateOf L line) with
    | true =>
      refine (ask_twn H line hln pick hs hw).mono ?_
      rintro e w' ⟨v, rfl, hv9, hn⟩
      exact ⟨v, rfl, takeR_no 231 (by unfold askF; rw [if_neg c1, if_pos ⟨hs, .inr hw⟩]) hv9 (H.new hn) hn⟩
    | false =>
      have c2 : ¬ (stateOf L line ≠ 0 ∧ (true = false ∨ writesB (stateOf L line) = true)) := by simp [hw]
      cases hv : vicL n ways L line pick with
      | none =>
        refine (ask_nw1n H line hln pick hs hw hv).mono ?_
        rintro e w' ⟨v, rfl, hv9⟩
        exact ⟨v, rfl, takeR_ok (by unfold askF; rw [if_neg c1, if_neg c2]; simp only [hv]) hv9⟩
      | some vx =>
        by_cases hx : vx.state = 1
        · refine (ask_sw1n H line hln pick hs hw vx hv hx).mono ?_
          rintro e w' ⟨v, rfl, hv9⟩
          exact ⟨v, rfl, takeR_ok (by unfold askF; rw [if_neg c1, if_neg c2]; simp only [hv]; simp [outF, hx]) hv9⟩
        · refine (ask_pw1n H line hln pick hs hw vx hv hx).mono ?_
          rintro e w' ⟨v, rfl, hv9⟩
          exact ⟨v, rfl, takeR_ok (by unfold askF; rw [if_neg c1, if_neg c2]; simp only [hv]; simp [outF, hx]) hv9⟩
  · have c2 : ¬ (stateOf L line ≠ 0 ∧ (true = false ∨ writesB (stateOf L line) = true)) := fun h => hs h.1
    cases hv : vicL n ways L line pick with
    | none =>
      refine (ask_nw0n H line hln pick hs hv).mono ?_
      rintro e w' ⟨v, rfl, hv9⟩
      exact ⟨v, rfl, takeR_ok (by unfold askF; rw [if_neg c1, if_neg c2]; simp only [hv]) hv9⟩
    | some vx =>
      by_cases hx : vx.state = 1
      · refine (ask_sw0n H line hln pick hs vx hv hx).mono ?_
        rintro e w' ⟨v, rfl, hv9⟩
        exact ⟨v, rfl, takeR_ok (by unfold askF; rw [if_neg c1, if_neg c2]; simp only [hv]; simp [outF, hx]) hv9⟩
      · refine (ask_pw0n H line hln pick hs vx hv hx).mono ?_
        rintro e w' ⟨v, rfl, hv9⟩
        exact ⟨v, rfl, takeR_ok (by unfold askF; rw [if_neg c1, if_neg c2]; simp only [hv]; simp [outF, hx]) hv9⟩
theorem ask_rs {w : World} {Fp : Nat → Prop} {b : Nat} {id : Int} {n : Nat} {ways : Int} {L : List Ln} {gx : Ln} (H : CacheAt w Fp b ⟨id, n, ways, L, none, (some gx)⟩) (line : Int) (hln : 0 ≤ line ∧ line < 4294967296) (pick : Int) (hg : ¬ gx.num = line) : Calls Try.prog 13 #[.pointer (some ⟨b, 0, none⟩), .int .u32 line, .bool false, .int .i64 pick] w (Ret fun v w' => TakeR w Fp b (askF ⟨id, n, ways, L, none, (some gx)⟩ line hln false pick) v w') := by
  have c1 : ¬ ((none : Option (Int × Bool)).isSome = true ∨ mine (some gx) line = true) := by simp [mine, hg]
  by_cases hs : stateOf L line ≠ 0
  · refine (ask_trs H line hln pick hg hs).mono ?_
    rintro e w' ⟨v, rfl, hv9, hn⟩
    exact ⟨v, rfl, takeR_no 231 (by unfold askF; rw [if_neg c1, if_pos ⟨hs, .inl rfl⟩]) hv9 (H.new hn) hn⟩
  · have c2 : ¬ (stateOf L line ≠ 0 ∧ (false = false ∨ writesB (stateOf L line) = true)) := fun h => hs h.1
    cases hv : vicL n ways L line pick with
    | none =>
      refine (ask_nr0s H line hln pick hg hs hv).mono ?_
      rintro e w' ⟨v, rfl, hv9⟩
      exact ⟨v, rfl, takeR_ok (by unfold askF; rw [if_neg c1, if_neg c2]; simp only [hv]) hv9⟩
    | some vx =>
      by_cases hx : vx.state = 1
      · refine (ask_sr0s H line hln pick hg hs vx hv hx).mono ?_
        rintro e w' ⟨v, rfl, hv9⟩
        exact ⟨v, rfl, takeR_ok (by unfold askF; rw [if_neg c1, if_neg c2]; simp only [hv]; simp [outF, hx]) hv9⟩
      · refine (ask_br0s H line hln pick hg hs vx hv hx).mono ?_
        rintro e w' ⟨v, rfl, hv9, hn⟩
        exact ⟨v, rfl, takeR_no 230 (by unfold askF; rw [if_neg c1, if_neg c2]; simp only [hv]; simp [outF, hx]) hv9 (H.new hn) hn⟩
theorem ask_ws {w : World} {Fp : Nat → Prop} {b : Nat} {id : Int} {n : Nat} {ways : Int} {L : List Ln} {gx : Ln} (H : CacheAt w Fp b ⟨id, n, ways, L, none, (some gx)⟩) (line : Int) (hln : 0 ≤ line ∧ line < 4294967296) (pick : Int) (hg : ¬ gx.num = line) : Calls Try.prog 13 #[.pointer (some ⟨b, 0, none⟩), .int .u32 line, .bool true, .int .i64 pick] w (Ret fun v w' => TakeR w Fp b (askF ⟨id, n, ways, L, none, (some gx)⟩ line hln true pick) v w') := by
  have c1 : ¬ ((none : Option (Int × Bool)).isSome = true ∨ mine (some gx) line = true) := by simp [mine, hg]
  by_cases hs : stateOf L line ≠ 0
  · cases hw : writesB (stateOf L line) with
    | true =>
      refine (ask_tws H line hln pick hg hs hw).mono ?_
      rintro e w' ⟨v, rfl, hv9, hn⟩
      exact ⟨v, rfl, takeR_no 231 (by unfold askF; rw [if_neg c1, if_pos ⟨hs, .inr hw⟩]) hv9 (H.new hn) hn⟩
    | false =>
      have c2 : ¬ (stateOf L line ≠ 0 ∧ (true = false ∨ writesB (stateOf L line) = true)) := by simp [hw]
      cases hv : vicL n ways L line pick with
      | none =>
        refine (ask_nw1s H line hln pick hg hs hw hv).mono ?_
        rintro e w' ⟨v, rfl, hv9⟩
        exact ⟨v, rfl, takeR_ok (by unfold askF; rw [if_neg c1, if_neg c2]; simp only [hv]) hv9⟩
      | some vx =>
        by_cases hx : vx.state = 1
        · refine (ask_sw1s H line hln pick hg hs hw vx hv hx).mono ?_
          rintro e w' ⟨v, rfl, hv9⟩
          exact ⟨v, rfl, takeR_ok (by unfold askF; rw [if_neg c1, if_neg c2]; simp only [hv]; simp [outF, hx]) hv9⟩
        · refine (ask_bw1s H line hln pick hg hs hw vx hv hx).mono ?_
          rintro e w' ⟨v, rfl, hv9, hn⟩
          exact ⟨v, rfl, takeR_no 230 (by unfold askF; rw [if_neg c1, if_neg c2]; simp only [hv]; simp [outF, hx]) hv9 (H.new hn) hn⟩
  · have c2 : ¬ (stateOf L line ≠ 0 ∧ (true = false ∨ writesB (stateOf L line) = true)) := fun h => hs h.1
    cases hv : vicL n ways L line pick with
    | none =>
      refine (ask_nw0s H line hln pick hg hs hv).mono ?_
      rintro e w' ⟨v, rfl, hv9⟩
      exact ⟨v, rfl, takeR_ok (by unfold askF; rw [if_neg c1, if_neg c2]; simp only [hv]) hv9⟩
    | some vx =>
      by_cases hx : vx.state = 1
      · refine (ask_sw0s H line hln pick hg hs vx hv hx).mono ?_
        rintro e w' ⟨v, rfl, hv9⟩
        exact ⟨v, rfl, takeR_ok (by unfold askF; rw [if_neg c1, if_neg c2]; simp only [hv]; simp [outF, hx]) hv9⟩
      · refine (ask_bw0s H line hln pick hg hs vx hv hx).mono ?_
        rintro e w' ⟨v, rfl, hv9, hn⟩
        exact ⟨v, rfl, takeR_no 230 (by unfold askF; rw [if_neg c1, if_neg c2]; simp only [hv]; simp [outF, hx]) hv9 (H.new hn) hn⟩
theorem ask_c {w : World} {Fp : Nat → Prop} {b : Nat} {id : Int} {n : Nat} {ways : Int} {L : List Ln} {ask : Option (Int × Bool)} {giv : Option Ln} (H : CacheAt w Fp b ⟨id, n, ways, L, ask, giv⟩) (line : Int) (hln : 0 ≤ line ∧ line < 4294967296) (pick : Int) (wr : Bool) : Calls Try.prog 13 #[.pointer (some ⟨b, 0, none⟩), .int .u32 line, .bool wr, .int .i64 pick] w (Ret fun v w' => TakeR w Fp b (askF ⟨id, n, ways, L, ask, giv⟩ line hln wr pick) v w') := by
  rcases ask with _ | ⟨al, aw⟩
  · rcases giv with _ | gx
    · cases wr
      · exact ask_rn H line hln pick
      · exact ask_wn H line hln pick
    · by_cases hg : gx.num = line
      · refine (ask_b2 H line hln pick hg wr).mono ?_
        rintro e w' ⟨v, rfl, hv9, hn⟩
        exact ⟨v, rfl, takeR_no 230 (by unfold askF; rw [if_pos (.inr (by simp [mine, hg]))]) hv9 (H.new hn) hn⟩
      · cases wr
        · exact ask_rs H line hln pick hg
        · exact ask_ws H line hln pick hg
  · refine (ask_b1 H line hln pick wr).mono ?_
    rintro e w' ⟨v, rfl, hv9, hn⟩
    exact ⟨v, rfl, takeR_no 230 (by unfold askF; rw [if_pos (.inl rfl)]) hv9 (H.new hn) hn⟩
end Go.Proofs.Ytflnlmibkbojcaa
namespace Go.Proofs.Ytflnlmibkbojcaa
open Go.RowKit
theorem place_no (addr : Int) (ha : 0 ≤ addr ∧ addr < 4294967296) (width : Int) (hw1 : ¬ width = 1) (hw2 : ¬ width = 2) (hw4 : ¬ width = 4) (w : World) : Calls Try.prog 54 #[.int .u32 addr, .int .i64 width] w (Ret fun v w' => v = .tuple #[.int .u32 (addr / 16), .int .i64 (addr % 16), .bool false] ∧ w' = w) := by
 refine Zen 32 Try.func54 ?_
 refine Zsr ?_
 refine Za ?_
 refine Za ?_
 refine Za ?_
 refine Znn ?_
 refine Zsr ?_
 refine Zm ?_
 refine Zv (.bool false) (fun _ fr => x_eql rfl (fr.ev rfl) rfl (decide_eq_false hw1)) ?_
 refine Zm ?_
 refine Zm ?_
 refine Zv (.bool false) (fun _ fr => x_eql rfl (fr.ev rfl) rfl (decide_eq_false hw2)) ?_
 refine Zpf ?_
 refine Zm ?_
 refine Zm ?_
 refine Zv (.bool false) (fun _ fr => x_eql rfl (fr.ev rfl) rfl (decide_eq_false hw4)) ?_
 refine Zpf ?_
 refine Zm ?_
 refine Zs ?_
 refine Zs ?_
 refine Zs ?_
 refine Zs ?_
 refine Zs ?_
 refine Zs ?_
 refine Zpf ?_
 refine Za ?_
 refine Znn ?_
 refine Zsr ?_
 refine Zm ?_
 refine Zv (.int .u32 (addr / 16)) (fun _ fr => x_quo rfl (fr.ev rfl) rfl (by decide) (u32q (by omega) (by decide))) ?_
 refine Zm ?_
 refine Zv (.int .u32 (addr % 16)) (fun _ fr => x_rem rfl (fr.ev rfl) rfl (by decide) (rem_nn (by omega))) ?_
 refine Zv _ (fun _ fr => x_convert Try.underlying32 Try.underlying3 rfl (fr.ev rfl) (i64w (r := addr % 16) rfl (by omega))) ?_
 refine Zm ?_
 refine Za ?_
 refine Za ?_
 refine Za ?_
 refine Znn ?_
 refine Zrt ?_
 refine Zre rfl [_, _, _] ⟨rfl, rfl, rfl, trivial⟩ ?_
 exact ⟨_, rfl, rfl, rfl⟩
theorem place_1 (addr : Int) (ha : 0 ≤ addr ∧ addr < 4294967296) (w : World) : Calls Try.prog 54 #[.int .u32 addr, .int .i64 1] w (Ret fun v w' => v = .tuple #[.int .u32 (addr / 16), .int .i64 (addr % 16), .bool (decide (addr % 1 = 0))] ∧ w' = w) := by
 refine Zen 32 Try.func54 ?_
 refine Zsr ?_
 refine Za ?_
 refine Za ?_
 refine Za ?_
 refine Znn ?_
 refine Zsr ?_
 refine Zm ?_
 refine Zv (.bool true) (fun _ fr => x_eql rfl (fr.ev rfl) rfl rfl) ?_
 refine Zm ?_
 refine Zs ?_
 refine Zs ?_
 refine Zpt ?_
 refine Zm ?_
 refine Zs ?_
 refine Zs ?_
 refine Zpt ?_
 refine Zm ?_
 refine Zm ?_
 refine Zm ?_
 refine Zv (.int .i64 1) (fun _ fr => x_max rfl (fr.ev rfl) rfl (r := 1) (by decide)) ?_
 refine Zv (.int .u32 1) (fun _ fr => x_convert Try.underlying3 Try.underlying32 rfl (fr.ev rfl) rfl) ?_
 refine Zv (.int .u32 (addr % 1)) (fun _ fr => x_rem rfl (fr.ev rfl) (fr.ev rfl) (by decide) (rem_nn (by omega))) ?_
 refine Zv _ (fun _ fr => x_eql rfl (fr.ev rfl) rfl rfl) ?_
 refine Zpt ?_
 refine Za ?_
 refine Znn ?_
 refine Zsr ?_
 refine Zm ?_
 refine Zv (.int .u32 (addr / 16)) (fun _ fr => x_quo rfl (fr.ev rfl) rfl (by decide) (u32q (by omega) (by decide))) ?_
 refine Zm ?_
 refine Zv (.int .u32 (addr % 16)) (fun _ fr => x_rem rfl (fr.ev rfl) rfl (by decide) (rem_nn (by omega))) ?_
 refine Zv _ (fun _ fr => x_convert Try.underlying32 Try.underlying3 rfl (fr.ev rfl) (i64w (r := addr % 16) rfl (by omega))) ?_
 refine Zm ?_
 refine Za ?_
 refine Za ?_
 refine Za ?_
 refine Znn ?_
 refine Zrt ?_
 refine Zre rfl [_, _, _] ⟨rfl, rfl, rfl, trivial⟩ ?_
 exact ⟨_, rfl, rfl, rfl⟩
theorem place_2 (addr : Int) (ha : 0 ≤ addr ∧ addr < 4294967296) (w : World) : Calls Try.prog 54 #[.int .u32 addr, .int .i64 2] w (Ret fun v w' => v = .tuple #[.int .u32 (addr / 16), .int .i64 (addr % 16), .bool (decide (addr % 2 = 0))] ∧ w' = w) := by
 refine Zen 32 Try.func54 ?_
 refine Zsr ?_
 refine Za ?_
 refine Za ?_
 refine Za ?_
 refine Znn ?_
 refine Zsr ?_
 refine Zm ?_
 refine Zv (.bool false) (fun _ fr => x_eql rfl (fr.ev rfl) rfl rfl) ?_
 refine Zm ?_
 refine Zm ?_
 refine Zv (.bool true) (fun _ fr => x_eql rfl (fr.ev rfl) rfl rfl) ?_
 refine Zpf ?_
 refine Zm ?_
 refine Zs ?_
 refine Zs ?_
 refine Zpt ?_
 refine Zm ?_
 refine Zm ?_
 refine Zm ?_
 refine Zv (.int .i64 2) (fun _ fr => x_max rfl (fr.ev rfl) rfl (r := 2) (by decide)) ?_
 refine Zv (.int .u32 2) (fun _ fr => x_convert Try.underlying3 Try.underlying32 rfl (fr.ev rfl) rfl) ?_
 refine Zv (.int .u32 (addr % 2)) (fun _ fr => x_rem rfl (fr.ev rfl) (fr.ev rfl) (by decide) (rem_nn (by omega))) ?_
 refine Zv _ (fun _ fr => x_eql rfl (fr.ev rfl) rfl rfl) ?_
 refine Zpt ?_
 refine Za ?_
 refine Znn ?_
 refine Zsr ?_
 refine Zm ?_
 refine Zv (.int .u32 (addr / 16)) (fun _ fr => x_quo rfl (fr.ev rfl) rfl (by decide) (u32q (by omega) (by decide))) ?_
 refine Zm ?_
 refine Zv (.int .u32 (addr % 16)) (fun _ fr => x_rem rfl (fr.ev rfl) rfl (by decide) (rem_nn (by omega))) ?_
 refine Zv _ (fun _ fr => x_convert Try.underlying32 Try.underlying3 rfl (fr.ev rfl) (i64w (r := addr % 16) rfl (by omega))) ?_
 refine Zm ?_
 refine Za ?_
 refine Za ?_
 refine Za ?_
 refine Znn ?_
 refine Zrt ?_
 refine Zre rfl [_, _, _] ⟨rfl, rfl, rfl, trivial⟩ ?_
 exact ⟨_, rfl, rfl, rfl⟩
theorem place_4 (addr : Int) (ha : 0 ≤ addr ∧ addr < 4294967296) (w : World) : Calls Try.prog 54 #[.int .u32 addr, .int .i64 4] w (Ret fun v w' => v = .tuple #[.int .u32 (addr / 16), .int .i64 (addr % 16), .bool (decide (addr % 4 = 0))] ∧ w' = w) := by
 refine Zen 32 Try.func54 ?_
 refine Zsr ?_
 refine Za ?_
 refine Za ?_
 refine Za ?_
 refine Znn ?_
 refine Zsr ?_
 refine Zm ?_
 refine Zv (.bool false) (fun _ fr => x_eql rfl (fr.ev rfl) rfl rfl) ?_
 refine Zm ?_
 refine Zm ?_
 refine Zv (.bool false) (fun _ fr => x_eql rfl (fr.ev rfl) rfl rfl) ?_
 refine Zpf ?_
 refine Zm ?_
 refine Zm ?_
 refine Zv (.bool true) (fun _ fr => x_eql rfl (fr.ev rfl) rfl rfl) ?_
 refine Zpf ?_
 refine Zm ?_
 refine Zm ?_
 refine Zm ?_
 refine Zv (.int .i64 4) (fun _ fr => x_max rfl (fr.ev rfl) rfl (r := 4) (by decide)) ?_
 refine Zv (.int .u32 4) (fun _ fr => x_convert Try.underlying3 Try.underlying32 rfl (fr.ev rfl) rfl) ?_
 refine Zv (.int .u32 (addr % 4)) (fun _ fr => x_rem rfl (fr.ev rfl) (fr.ev rfl) (by decide) (rem_nn (by omega))) ?_
 refine Zv _ (fun _ fr => x_eql rfl (fr.ev rfl) rfl rfl) ?_
 refine Zpt ?_
 refine Za ?_
 refine Znn ?_
 refine Zsr ?_
 refine Zm ?_
 refine Zv (.int .u32 (addr / 16)) (fun _ fr => x_quo rfl (fr.ev rfl) rfl (by decide) (u32q (by omega) (by decide))) ?_
 refine Zm ?_
 refine Zv (.int .u32 (addr % 16)) (fun _ fr => x_rem rfl (fr.ev rfl) rfl (by decide) (rem_nn (by omega))) ?_
 refine Zv _ (fun _ fr => x_convert Try.underlying32 Try.underlying3 rfl (fr.ev rfl) (i64w (r := addr % 16) rfl (by omega))) ?_
 refine Zm ?_
 refine Za ?_
 refine Za ?_
 refine Za ?_
 refine Znn ?_
 refine Zrt ?_
 refine Zre rfl [_, _, _] ⟨rfl, rfl, rfl, trivial⟩ ?_
 exact ⟨_, rfl, rfl, rfl⟩
end Go.Proofs.Ytflnlmibkbojcaa
namespace Go.Proofs.Ytflnlmibkbojcaa
open Go.RowKit
def rdI (bs : List Int) (p : Nat) : Nat → Int
  | 0 => 0
  | i + 1 => rdI bs p i + bs.getD (p + i) 0 * 256 ^ i
def wrL (bs : List Int) (p : Nat) (v : Int) : Nat → List Int
  | 0 => bs
  | i + 1 => (wrL bs p v i).set (p + i) (v / 256 ^ i % 256)
theorem getD_bd {l : List Int} (h : ∀ a ∈ l, 0 ≤ a ∧ a < 256) (j : Nat) : 0 ≤ l.getD j 0 ∧ l.getD j 0 < 256 := by
  by_cases hj : j < l.length
  · have e : l.getD j 0 = l[j] := by simp [List.getD, hj]
    rw [e]
    exact h _ (List.getElem_mem hj)
  · have e : l.getD j 0 = 0 := by simp [List.getD, List.getElem?_eq_none (show l.length ≤ j by omega)]
    rw [e]
    omega
theorem rdI_bd {l : List Int} (h : ∀ a ∈ l, 0 ≤ a ∧ a < 256) (p : Nat) : ∀ i, 0 ≤ rdI l p i ∧ rdI l p i < 256 ^ i
  | 0 => by simp [rdI]
  | i + 1 => by
    have h1 := rdI_bd h p i
    have h2 := getD_bd h (p + i)
    have h3 : (0 : Int) < 256 ^ i := Int.pow_pos (by decide)
    simp only [rdI]
    rw [Int.pow_succ]
    have h4 : 0 ≤ l.getD (p + i) 0 * 256 ^ i := Int.mul_nonneg h2.1 (by omega)
    have h5 : l.getD (p + i) 0 * 256 ^ i ≤ 255 * 256 ^ i := Int.mul_le_mul_of_nonneg_right (by omega) (by omega)
    omega
theorem wrL_len (bs : List Int) (p : Nat) (v : Int) : ∀ i, (wrL bs p v i).length = bs.length
  | 0 => rfl
  | i + 1 => by rw [wrL, List.length_set, wrL_len]
theorem wrL_bd {bs : List Int} (h : ∀ a ∈ bs, 0 ≤ a ∧ a < 256) (p : Nat) (v : Int) : ∀ i, ∀ a ∈ wrL bs p v i, 0 ≤ a ∧ a < 256
  | 0 => h
  | i + 1 => fun a ha => by
    rcases List.mem_or_eq_of_mem_set ha with ha | rfl
    · exact wrL_bd h p v i a ha
    · have h1 := Int.emod_nonneg (v / 256 ^ i) (show (256 : Int) ≠ 0 by decide)
      have h2 := Int.emod_lt_of_pos (v / 256 ^ i) (show (0 : Int) < 256 by decide)
      omega
def wrB (b : B16) (p : Nat) (v : Int) (i : Nat) : B16 := ⟨wrL b.1 p v i, by rw [wrL_len]; exact b.2.1, wrL_bd b.2.2 p v i⟩
theorem or_hi {m q : Nat} {j : Nat} (h : m < 2 ^ j) : m ||| q * 2 ^ j = m + q * 2 ^ j := by
  rw [Nat.or_comm, ← Nat.shiftLeft_eq, ← Nat.shiftLeft_add_eq_or_of_lt h, Nat.add_comm]
theorem rd_or (b : B16) (p j : Nat) (hj : j < 4) : IntKind.u32.wrap (BitVec.ofInt IntKind.u32.bits (rdI b.1 p j) ||| BitVec.ofInt IntKind.u32.bits (b.1.getD (p + j) 0 * 256 ^ j)).toNat = rdI b.1 p (j + 1) := by
  have h1 := rdI_bd b.2.2 p j
  have h2 := getD_bd b.2.2 (p + j)
  have h3 := rdI_bd b.2.2 p (j + 1)
  have e0 : rdI b.1 p (j + 1) = rdI b.1 p j + b.1.getD (p + j) 0 * 256 ^ j := rfl
  rw [e0] at h3 ⊢
  obtain ⟨m, hm⟩ := Int.eq_ofNat_of_zero_le h1.1
  obtain ⟨q, hq⟩ := Int.eq_ofNat_of_zero_le h2.1
  rw [hm] at h1 h3 ⊢
  rw [hq] at h2 h3 ⊢
  have e1 : ((m : Nat) : Int) + ((q : Nat) : Int) * 256 ^ j = ((m + q * 2 ^ (8 * j) : Nat) : Int) := by
    push_cast
    rw [Int.pow_mul]
    rfl
  have e2 : ((q : Nat) : Int) * 256 ^ j = ((q * 2 ^ (8 * j) : Nat) : Int) := by
    push_cast
    rw [Int.pow_mul]
    rfl
  have hb : (256 : Int) ^ (j + 1) ≤ 4294967296 := by
    rcases (show j = 0 ∨ j = 1 ∨ j = 2 ∨ j = 3 by omega) with rfl | rfl | rfl | rfl <;> decide
  have hm8 : m < 2 ^ (8 * j) := by
    have : ((m : Nat) : Int) < ((2 ^ (8 * j) : Nat) : Int) := by
      push_cast
      rw [Int.pow_mul]
      exact h1.2
    omega
  rw [e1] at h3 ⊢
  rw [e2]
  show IntKind.u32.wrap ((BitVec.ofInt 32 ((m : Nat) : Int)) ||| (BitVec.ofInt 32 ((q * 2 ^ (8 * j) : Nat) : Int))).toNat = _
  rw [BitVec.ofInt_natCast, BitVec.ofInt_natCast, BitVec.toNat_or, BitVec.toNat_ofNat, BitVec.toNat_ofNat, Nat.mod_eq_of_lt (show m < 2 ^ 32 by omega), Nat.mod_eq_of_lt (show q * 2 ^ (8 * j) < 2 ^ 32 by omega), or_hi hm8]
  exact u32w rfl (by omega)
theorem sh_up {m : Int} {j : Nat} (hm : 0 ≤ m ∧ m < 256) (hj : j < 4) : IntKind.u32.wrap (m * 2 ^ min (((8 * j : Nat) : Int)).toNat IntKind.u32.bits) = m * 256 ^ j := by
  rcases (show j = 0 ∨ j = 1 ∨ j = 2 ∨ j = 3 by omega) with rfl | rfl | rfl | rfl
  all_goals
    simp [IntKind.bits]
    exact u32w rfl (by omega)
theorem sh_dn {m : Int} {j : Nat} (hj : j < 4) : m.fdiv (2 ^ min (((8 * j : Nat) : Int)).toNat IntKind.u32.bits) = m / 256 ^ j := by
  rcases (show j = 0 ∨ j = 1 ∨ j = 2 ∨ j = 3 by omega) with rfl | rfl | rfl | rfl
  all_goals
    simp [IntKind.bits]
    try exact Int.fdiv_eq_ediv_of_nonneg _ (by decide)
theorem ln_cell (x : Ln) {j : Nat} (hj : j < 16) : (lnE.arr x)[2 + j]? = some (.int .u8 (x.bs.1.getD j 0)) := by
  have hl := x.bs.2.1
  simp only [Enc.arr, List.getElem?_toArray]
  show (x.cells)[2 + j]? = _
  rw [Nat.add_comm]
  simp [Ln.cells, List.getD, List.getElem?_eq_getElem (show j < x.bs.1.length by omega)]
theorem ln_setb (x : Ln) (p i : Nat) (v : Int) (hj : p + i < 16) : (lnE.arr { x with bs := wrB x.bs p v i }).setIfInBounds (2 + (p + i)) (.int .u8 (v / 256 ^ i % 256)) = lnE.arr { x with bs := wrB x.bs p v (i + 1) } := by
  apply Array.toList_inj.1
  rw [Array.toList_setIfInBounds, Enc.toList, Enc.toList]
  show (Ln.cells _).set (2 + (p + i)) _ = Ln.cells _
  rw [Nat.add_comm 2]
  simp [Ln.cells, wrB, wrL, List.map_set]
def rightA (addr width : Int) : Bool := (decide (width = 1) || decide (width = 2) || decide (width = 4)) && decide (addr % width = 0)
theorem rightA_yes {addr width : Int} (ha : 0 ≤ addr) (h : rightA addr width = true) : 1 ≤ width ∧ width ≤ 4 ∧ addr % 16 + width ≤ 16 := by
  simp [rightA] at h
  obtain ⟨(h1 | h1) | h1, h2⟩ := h <;> subst h1 <;> omega
theorem place_c (addr width : Int) (ha : 0 ≤ addr ∧ addr < 4294967296) (w : World) : Calls Try.prog 54 #[.int .u32 addr, .int .i64 width] w (Ret fun v w' => v = .tuple #[.int .u32 (addr / 16), .int .i64 (addr % 16), .bool (rightA addr width)] ∧ w' = w) := by
  by_cases h1 : width = 1
  · subst h1
    refine (place_1 addr ha w).mono ?_
    rintro e w' ⟨v, rfl, rfl, rfl⟩
    exact ⟨_, rfl, by simp [rightA], rfl⟩
  by_cases h2 : width = 2
  · subst h2
    refine (place_2 addr ha w).mono ?_
    rintro e w' ⟨v, rfl, rfl, rfl⟩
    exact ⟨_, rfl, by simp [rightA], rfl⟩
  by_cases h4 : width = 4
  · subst h4
    refine (place_4 addr ha w).mono ?_
    rintro e w' ⟨v, rfl, rfl, rfl⟩
    exact ⟨_, rfl, by simp [rightA], rfl⟩
  refine (place_no addr ha width h1 h2 h4 w).mono ?_
  rintro e w' ⟨v, rfl, rfl, rfl⟩
  exact ⟨_, rfl, by simp [rightA, h1, h2, h4], rfl⟩
def readF (L : List Ln) (addr width : Int) : Int × Int :=
  if rightA addr width = false then (0, 2) else match getN L (addr / 16) with
    | none => (0, 232)
    | some x => (rdI x.bs.1 (addr % 16).toNat width.toNat, 0)
def wrLn (x : Ln) (addr width v : Int) : Ln := { x with bs := wrB x.bs (addr % 16).toNat v width.toNat, state := 3 }
def writeF (d : CD) (addr width v : Int) : CD × Int :=
  if rightA addr width = false then (d, 2) else if writesB (stateOf d.L (addr / 16)) = false then (d, 232)
  else ({ d with L := putL d.n d.ways d.L (wrLn ((getN d.L (addr / 16)).getD ln0) addr width v) }, 0)
theorem get_num {L : List Ln} {num : Int} {x : Ln} (h : getN L num = some x) : x.num = num := by
  have := List.find?_some h
  simpa [isNum] using this
theorem w_there {L : List Ln} {num : Int} (h : writesB ((getN L num).getD ln0).state = true) : ∃ y, getN L num = some y ∧ (getN L num).getD ln0 = y := by
  cases hg : getN L num with
  | none => rw [hg] at h; exact absurd h (by decide)
  | some y => exact ⟨y, rfl, rfl⟩
theorem put_there {n : Nat} {ways : Int} {L : List Ln} {num : Int} (h : writesB ((getN L num).getD ln0).state = true) (x : Ln) (h1 : x.num = ((getN L num).getD ln0).num) (h2 : x.state = 3) : putE n ways L x = 0 := by
  obtain ⟨y, hy, hd⟩ := w_there h
  have hn : x.num = num := by rw [h1, hd]; exact get_num hy
  have ho : ¬ okS x = false := by simp [okS, h2]
  unfold putE
  rw [if_neg ho, if_neg (fun hh => by rw [hn, hy] at hh; cases hh.1)]
def WriteR (w : World) (Fp : Nat → Prop) (b : Nat) (r : CD × Int) (v : Value) (w' : World) : Prop :=
  v = .int .i64 r.2 ∧ ∃ Fp', CacheAt w' Fp' b r.1 ∧ Only Fp w w' ∧ ∀ g, Fp' g → Fp g ∨ w.heap.size ≤ g
theorem wr_no {w w' : World} {Fp : Nat → Prop} {b : Nat} {r : CD × Int} {d : CD} {e : Int} (hr : r = (d, e)) (h : CacheAt w Fp b d) (hn : New w w') : WriteR w Fp b r (.int .i64 e) w' := by
  subst hr
  exact ⟨rfl, Fp, h.new hn, hn.mono fun _ _ h => h.elim, fun g hg => .inl hg⟩
theorem wr_ok {w w' : World} {Fp : Nat → Prop} {b : Nat} {r : CD × Int} {d : CD} {e : Int} (hr : r = (d, e)) (Fp' : Nat → Prop) (h : CacheAt w' Fp' b d) (hO : Only Fp w w') (hi : ∀ g, Fp' g → Fp g ∨ w.heap.size ≤ g) : WriteR w Fp b r (.int .i64 e) w' := by
  subst hr
  exact ⟨rfl, Fp', h, hO, hi⟩
def HasRoom (n : Nat) (ways : Int) (L : List Ln) (num : Int) : Prop := getN L num = none → ((ofs n L (si n num)).length : Int) < ways
def RoomOk (d : CD) : Prop := ∀ l wr, d.ask = some (l, wr) → HasRoom d.n d.ways d.L l
end Go.Proofs.Ytflnlmibkbojcaa
namespace Go.Proofs.Ytflnlmibkbojcaa
open Go.RowKit
theorem read_c (addr : Int) (ha : 0 ≤ addr ∧ addr < 4294967296) (width : Int) {w : World} {b lb : Nat} {id : Int} {pa pg : Value} {FpL : Nat → Prop} {n : Nat} {ways : Int} {L : List Ln} (hB : Blk w b 83 #[.int .i64 id, .pointer (some ⟨lb, 0, none⟩), pa, pg]) (hL : LinesAt w FpL lb n ways L) (ap_FpL_b : ¬ FpL b)  : Calls Try.prog 17 #[.pointer (some ⟨b, 0, none⟩), .int .u32 addr, .int .i64 width] w (Ret fun v w' => v = .tuple #[.int .u32 (readF L addr width).1, .int .i64 (readF L addr width).2] ∧ New w w') := by
 obtain ⟨hn1, hn2, hw1, hw2⟩ := hL.bd
 have hF := Only.refl (fun _ => False) w
 refine Zen 55 Try.func17 ?_
 refine Zsr ?_
 refine Za ?_
 refine Za ?_
 refine Znn ?_
 refine Zsq ?_
 refine Zsr ?_
 refine Zm ?_
 refine Zk cf43 (cnone_c hB) ?_
 rintro v w9 ⟨rfl, hw9⟩
 obtain rfl := hw9.symm
 refine Znn ?_
 refine Zcf ?_
 refine Zsk ?_
 refine Znx ?_
 refine Zsr ?_
 refine Zm ?_
 refine Zm ?_
 refine Zk (args := #[.int .u32 addr, .int .i64 width]) cf54 (place_c addr width (by omega) _) ?_
 rintro v w9 ⟨rfl, hw9⟩
 obtain rfl := hw9.symm
 refine Zm ?_
 refine Zt ?_
 refine Zt ?_
 refine Zt ?_
 refine Za ?_
 refine Za ?_
 refine Za ?_
 refine Znn ?_
 refine Zsq ?_
 refine Zsr ?_
 refine Zm ?_
 refine Zv _ (fun _ fr => x_not rfl (fr.ev rfl) rfl) ?_
 refine Znn ?_
 refine Zcd (fun hc5 => ?_) (fun hc5 => ?_)
 ·refine Zsr ?_
  refine Za ?_
  refine Za ?_
  refine Znn ?_
  refine Zrt ?_
  refine Zr1 ?_
  refine Zre rfl [_, _] ⟨rfl, rfl, trivial⟩ ?_
  have hq : readF L addr width = (0, 2) := by unfold readF; rw [if_pos (by simpa using hc5)]
  rw [hq]
  exact ⟨_, rfl, rfl, hF⟩
 ·refine Zsk ?_
  refine Znx ?_
  refine Zsq ?_
  have hrt : rightA addr width = true := by simpa using hc5
  have hrd := rightA_yes (by omega) hrt
  refine Zrg ?_
  refine Zm ?_
  refine Zn ?_
  refine Zf fo83_1 ?_
  refine Zd pl79 (hB.cell 1 rfl) ?_
  refine Zm ?_
  refine Zk (args := #[.pointer (some ⟨lb, 0, none⟩), .int .u32 (addr / 16)]) cf55 (find_c (addr / 16) (by omega) hL) ?_
  rintro v w6 ⟨rfl, hN7⟩
  refine Zm ?_
  refine Zt ?_
  refine Zt ?_
  refine Zna (z := zv1) (cs := lnE.arr ln0) (by kernel_rfl) fun b8 w9 hN10 B11 hb12 => ?_
  replace hB := hB.new hN7
  have ne_b_b8 : NE b b8 := NE.mk (Nat.lt_of_lt_of_le hB.lt hb12)
  replace hL := hL.new hN7
  have ap_FpL_b8 : ¬ FpL b8 := hL.apart hb12
  replace hF := hF.trNew hN7
  have g_b8 := Nat.le_trans hF.size hb12
  refine ZsS sz39 (lnE.all _) B11 (lnE.size _) (lnE.size _) fun w13 hO14 hBq => ?_
  replace B11 := hBq
  clear hBq
  refine Za ?_
  refine Znn ?_
  refine Zsq ?_
  refine Zsr ?_
  refine Zm ?_
  refine Zv _ (fun _ fr => x_not rfl (fr.ev rfl) rfl) ?_
  refine Znn ?_
  refine Zcd (fun hc15 => ?_) (fun hc15 => ?_)
  ·refine Zsr ?_
   refine Za ?_
   refine Za ?_
   refine Znn ?_
   refine Zrt ?_
   refine Zr1 ?_
   refine Zre rfl [_, _] ⟨rfl, rfl, trivial⟩ ?_
   have hnr : ¬ rightA addr width = false := by rw [hrt]; decide
   have hq : readF L addr width = (0, 232) := by unfold readF; rw [if_neg hnr]; cases hg : getN L (addr / 16) with
   | none => rfl
   | some x => simp [hg] at hc15
   rw [hq]
   replace hF := (hF.trNew hN10).loc hO14 (.inr g_b8)
   exact ⟨_, rfl, rfl, hF⟩
  ·refine Zsk ?_
   refine Znx ?_
   refine Zsr ?_
   refine Za ?_
   refine Znn ?_
   refine Zsq ?_
   refine Zsr ?_
   refine Zm ?_
   refine Zm ?_
   refine Znn ?_
   refine Zbl ?_
   intro a fr
   replace hB := (hB.new hN10).only hO14 ne_b_b8
   replace hL := (hL.new hN10).only hO14 (ne1P ap_FpL_b8)
   replace hF := (hF.trNew hN10).loc hO14 (.inr g_b8)
   refine fx_loop (fun nM a wL => ∃ j : Nat, nM = (width - j).toNat ∧ Fr (55, []) [(0, .pointer (some ⟨b, 0, none⟩)), (1, .int .u32 addr), (2, .int .i64 width), (8, .int .u32 (addr / 16)), (9, .int .i64 (addr % 16)), (11, .pointer (some ⟨b8, 0, none⟩)), (37, .int .i64 width), (13, .int .u32 (rdI ((getN L (addr / 16)).getD ln0).bs.1 (addr % 16).toNat j)), (38, .int .i64 ((j : Nat) : Int))] a ∧ Only (fun _ => False) w wL ∧ Blk wL b 83 #[.int .i64 id, .pointer (some ⟨lb, 0, none⟩), pa, pg] ∧ LinesAt wL FpL lb n ways L ∧ Blk wL b8 39 (lnE.arr ((getN L (addr / 16)).getD ln0)) ∧ ((j : Nat) : Int) ≤ width) (n0 := _) ⟨0, rfl, fr.sub ⟨rfl, rfl, rfl, rfl, rfl, rfl, rfl, rfl, rfl, trivial⟩, hF, hB, hL, B11, by omega⟩ ?_
   clear fr a
   rintro n17 a w16 ⟨j, rfl, fr, hF, hB, hL, B11, hj⟩
   revert a
   refine Zsr ?_
   refine Zv _ (fun _ fr => x_lss rfl (fr.ev rfl) (fr.ev rfl) rfl) ?_
   refine Znn ?_
   refine Zsq ?_
   refine Zcd (fun hc18 => ?_) (fun hc18 => ?_)
   ·have hc18 := of_decide_eq_true hc18
    refine Zsk ?_
    refine Znx ?_
    refine Zsq ?_
    refine Zbl ?_
    refine Zsr ?_
    refine Zm ?_
    refine Za ?_
    refine Znn ?_
    refine Zrg ?_
    refine Zm ?_
    refine Zm ?_
    refine Zm ?_
    refine Zv _ (fun _ fr => x_add rfl (fr.ev rfl) (fr.ev rfl) (i64w (r := ((((addr % 16).toNat) + j : Nat) : Int)) (by omega) (by omega))) ?_
    refine Zf fo39_2 ?_
    refine Zv (.pointer (some ⟨b8, 2 + (((addr % 16).toNat) + j), none⟩)) (fun _ fr => x_indexArr Try.underlying22 sz16 rfl (fr.ev rfl) (fr.ev rfl) (by omega) (show 2 + (((addr % 16).toNat) + j) * 1 = 2 + (((addr % 16).toNat) + j) by omega)) ?_
    refine Zd (v := .int .u8 (((getN L (addr / 16)).getD ln0).bs.1.getD (((addr % 16).toNat) + j) 0)) pl5 (B11.cell _ (ln_cell ((getN L (addr / 16)).getD ln0) (j := ((addr % 16).toNat) + j) (by omega))) ?_
    refine Zv (.int .u32 (((getN L (addr / 16)).getD ln0).bs.1.getD (((addr % 16).toNat) + j) 0)) (fun _ fr => x_convert Try.underlying5 Try.underlying32 rfl (fr.ev rfl) (u32w (r := ((getN L (addr / 16)).getD ln0).bs.1.getD (((addr % 16).toNat) + j) 0) rfl (by have := getD_bd ((getN L (addr / 16)).getD ln0).bs.2.2 (((addr % 16).toNat) + j); omega))) ?_
    refine Zm ?_
    refine Zv _ (fun _ fr => x_mul rfl rfl (fr.ev rfl) (i64w (r := ((8 * j : Nat) : Int)) (by omega) (by omega))) ?_
    refine Zv (.int .u32 (((getN L (addr / 16)).getD ln0).bs.1.getD (((addr % 16).toNat) + j) 0 * 256 ^ j)) (fun _ fr => x_shl rfl (fr.ev rfl) (fr.ev rfl) (by omega) (sh_up (getD_bd ((getN L (addr / 16)).getD ln0).bs.2.2 (((addr % 16).toNat) + j)) (by omega))) ?_
    refine Zv (.int .u32 (rdI ((getN L (addr / 16)).getD ln0).bs.1 (addr % 16).toNat (j + 1))) (fun _ fr => x_or rfl (fr.ev rfl) (fr.ev rfl) (rd_or ((getN L (addr / 16)).getD ln0).bs (addr % 16).toNat j (by omega))) ?_
    refine Za ?_
    refine Znl ?_
    refine Zb ?_
    refine Znx ?_
    refine Zrg ?_
    refine Zv _ (fun _ fr => x_add rfl (fr.ev rfl) rfl (i64w (r := ((j + 1 : Nat) : Int)) (by omega) (by omega))) ?_
    refine Zm ?_
    intro a fr
    refine wpList_nil ?_
    refine fx_next ?_
    exact ⟨_, by omega, (j + 1), rfl, fr.sub ⟨rfl, rfl, rfl, rfl, rfl, rfl, rfl, rfl, rfl, trivial⟩, hF, hB, hL, B11, by omega⟩
   ·have hc18 := of_decide_eq_false hc18
    refine Zex ?_
    refine Zxt ?_
    refine Zxt ?_
    refine Zxx ?_
    refine Znx ?_
    refine Zsr ?_
    refine Zm ?_
    refine Za ?_
    refine Za ?_
    refine Znn ?_
    refine Zrt ?_
    refine Zre rfl [_, _] ⟨rfl, rfl, trivial⟩ ?_
    have hnr : ¬ rightA addr width = false := by rw [hrt]; decide
    obtain rfl : j = width.toNat := by omega
    have hq : readF L addr width = (rdI ((getN L (addr / 16)).getD ln0).bs.1 (addr % 16).toNat width.toNat, 0) := by unfold readF; rw [if_neg hnr]; cases hg : getN L (addr / 16) with
    | none => simp [hg] at hc15
    | some x => rfl
    rw [hq]
    exact ⟨_, rfl, rfl, hF⟩
theorem write_a (addr : Int) (ha : 0 ≤ addr ∧ addr < 4294967296) (width : Int) {w : World} {Fp : Nat → Prop} {b : Nat} {id : Int} {n : Nat} {ways : Int} {L : List Ln} {ask : Option (Int × Bool)} {giv : Option Ln} (H : CacheAt w Fp b ⟨id, n, ways, L, ask, giv⟩) (value : Int) (hrt : rightA addr width = false)  : Calls Try.prog 15 #[.pointer (some ⟨b, 0, none⟩), .int .u32 addr, .int .i64 width, .int .u32 value] w (Ret fun v w' => WriteR w Fp b (writeF ⟨id, n, ways, L, ask, giv⟩ addr width value) v w') := by
 have H9 := H
 obtain ⟨lb, FpL, pa, pg, FpA, FpG, hB, hL, hA, hG, hP⟩ := H
 dsimp only at hB hL hA hG
 obtain ⟨hn1, hn2, hw1, hw2⟩ := hL.bd
 have hF := Only.refl (fun _ => False) w
 refine Zen 61 Try.func15 ?_
 refine Zsr ?_
 refine Za ?_
 refine Znn ?_
 refine Zsq ?_
 refine Zsr ?_
 refine Zm ?_
 refine Zk cf43 (cnone_c hB) ?_
 rintro v w9 ⟨rfl, hw9⟩
 obtain rfl := hw9.symm
 refine Znn ?_
 refine Zcf ?_
 refine Zsk ?_
 refine Znx ?_
 refine Zsr ?_
 refine Zm ?_
 refine Zm ?_
 refine Zk (args := #[.int .u32 addr, .int .i64 width]) cf54 (place_c addr width (by omega) _) ?_
 rintro v w9 ⟨rfl, hw9⟩
 obtain rfl := hw9.symm
 refine Zm ?_
 refine Zt ?_
 refine Zt ?_
 refine Zt ?_
 refine Za ?_
 refine Za ?_
 refine Za ?_
 refine Znn ?_
 refine Zsq ?_
 refine Zsq ?_
 intro a fr
 rw [hrt] at fr
 revert a
 refine Zrg ?_
 refine Zm ?_
 refine Zv (.bool true) (fun _ fr => x_not rfl (fr.ev rfl) rfl) ?_
 refine Znn ?_
 refine Zct ?_
 refine Zsr ?_
 refine Za ?_
 refine Znn ?_
 refine Zrt ?_
 refine Zr1 ?_
 refine Zre rfl [_] ⟨rfl, trivial⟩ ?_
 exact ⟨_, rfl, wr_no (by unfold writeF; rw [if_pos hrt]) H9 hF⟩
theorem write_m (addr : Int) (ha : 0 ≤ addr ∧ addr < 4294967296) (width : Int) {w : World} {Fp : Nat → Prop} {b : Nat} {id : Int} {n : Nat} {ways : Int} {L : List Ln} {ask : Option (Int × Bool)} {giv : Option Ln} (H : CacheAt w Fp b ⟨id, n, ways, L, ask, giv⟩) (value : Int) (hrt : rightA addr width = true) (hwt : writesB (stateOf L (addr / 16)) = false)  : Calls Try.prog 15 #[.pointer (some ⟨b, 0, none⟩), .int .u32 addr, .int .i64 width, .int .u32 value] w (Ret fun v w' => WriteR w Fp b (writeF ⟨id, n, ways, L, ask, giv⟩ addr width value) v w') := by
 have hwx : writesB (((getN L (addr / 16)).getD ln0).state) = false := hwt
 have H9 := H
 obtain ⟨lb, FpL, pa, pg, FpA, FpG, hB, hL, hA, hG, hP⟩ := H
 dsimp only at hB hL hA hG
 obtain ⟨hn1, hn2, hw1, hw2⟩ := hL.bd
 have hF := Only.refl (fun _ => False) w
 refine Zen 61 Try.func15 ?_
 refine Zsr ?_
 refine Za ?_
 refine Znn ?_
 refine Zsq ?_
 refine Zsr ?_
 refine Zm ?_
 refine Zk cf43 (cnone_c hB) ?_
 rintro v w9 ⟨rfl, hw9⟩
 obtain rfl := hw9.symm
 refine Znn ?_
 refine Zcf ?_
 refine Zsk ?_
 refine Znx ?_
 refine Zsr ?_
 refine Zm ?_
 refine Zm ?_
 refine Zk (args := #[.int .u32 addr, .int .i64 width]) cf54 (place_c addr width (by omega) _) ?_
 rintro v w9 ⟨rfl, hw9⟩
 obtain rfl := hw9.symm
 refine Zm ?_
 refine Zt ?_
 refine Zt ?_
 refine Zt ?_
 refine Za ?_
 refine Za ?_
 refine Za ?_
 refine Znn ?_
 refine Zsq ?_
 refine Zsq ?_
 intro a fr
 rw [hrt] at fr
 revert a
 refine Zrg ?_
 refine Zm ?_
 refine Zv (.bool false) (fun _ fr => x_not rfl (fr.ev rfl) rfl) ?_
 refine Znn ?_
 refine Zcf ?_
 refine Zsk ?_
 refine Znx ?_
 refine Zsq ?_
 have hrd := rightA_yes (by omega) hrt
 refine Zrg ?_
 refine Zm ?_
 refine Zn ?_
 refine Zf fo83_1 ?_
 refine Zd pl79 (hB.cell 1 rfl) ?_
 refine Zm ?_
 refine Zk (args := #[.pointer (some ⟨lb, 0, none⟩), .int .u32 (addr / 16)]) cf55 (find_c (addr / 16) (by omega) hL) ?_
 rintro v w5 ⟨rfl, hN6⟩
 refine Zm ?_
 refine Zt ?_
 refine Zt ?_
 refine Zna (z := zv1) (cs := lnE.arr ln0) (by kernel_rfl) fun b7 w8 hN9 B10 hb11 => ?_
 replace hF := hF.trNew hN6
 have g_b7 := Nat.le_trans hF.size hb11
 refine ZsS sz39 (lnE.all _) B10 (lnE.size _) (lnE.size _) fun w12 hO13 hBq => ?_
 replace B10 := hBq
 clear hBq
 refine Za ?_
 refine Znn ?_
 refine Zsq ?_
 refine Zsr ?_
 refine Zf fo39_1 ?_
 refine Zd (v := .int .i64 (((getN L (addr / 16)).getD ln0).state)) pl36 (B10.cell 1 rfl) ?_
 refine Zk cf44 (writes_c (((getN L (addr / 16)).getD ln0).state) _) ?_
 rintro v _ ⟨rfl, hw9⟩
 obtain rfl := hw9.symm
 intro a fr
 rw [hwx] at fr
 revert a
 refine Zv (.bool true) (fun _ fr => x_not rfl (fr.ev rfl) rfl) ?_
 refine Znn ?_
 refine Zct ?_
 refine Zsr ?_
 refine Za ?_
 refine Znn ?_
 refine Zrt ?_
 refine Zr1 ?_
 refine Zre rfl [_] ⟨rfl, trivial⟩ ?_
 replace hF := (hF.trNew hN9).loc hO13 (.inr g_b7)
 exact ⟨_, rfl, wr_no (by unfold writeF; rw [if_neg (by rw [hrt]; decide), if_pos hwt]) H9 hF⟩
theorem write_y (addr : Int) (ha : 0 ≤ addr ∧ addr < 4294967296) (width : Int) {w : World} {Fp : Nat → Prop} {b : Nat} {id : Int} {n : Nat} {ways : Int} {L : List Ln} {ask : Option (Int × Bool)} {giv : Option Ln} (H : CacheAt w Fp b ⟨id, n, ways, L, ask, giv⟩) (value : Int) (hrt : rightA addr width = true) (hwt : writesB (stateOf L (addr / 16)) = true)  : Calls Try.prog 15 #[.pointer (some ⟨b, 0, none⟩), .int .u32 addr, .int .i64 width, .int .u32 value] w (Ret fun v w' => WriteR w Fp b (writeF ⟨id, n, ways, L, ask, giv⟩ addr width value) v w') := by
 have hwx : writesB (((getN L (addr / 16)).getD ln0).state) = true := hwt
 have H9 := H
 obtain ⟨lb, FpL, pa, pg, FpA, FpG, hB, hL, hA, hG, hP⟩ := H
 dsimp only at hB hL hA hG
 have ap_FpL_b := hP.lb
 have ap_FpA_b := hP.ab
 have ap_FpG_b := hP.gb
 have ap2_FpL_FpA := hP.la
 have ap2_FpL_FpG := hP.lg
 have ap2_FpA_FpG := hP.ag
 obtain ⟨hn1, hn2, hw1, hw2⟩ := hL.bd
 have gA_FpL : ∀ g, FpL g → Fp g ∨ w.heap.size ≤ g := fun g hg => .inl ((hP.foot g).2 (.inr (.inl hg)))
 have gA_FpA : ∀ g, FpA g → Fp g ∨ w.heap.size ≤ g := fun g hg => .inl ((hP.foot g).2 (.inr (.inr (.inl hg))))
 have gA_FpG : ∀ g, FpG g → Fp g ∨ w.heap.size ≤ g := fun g hg => .inl ((hP.foot g).2 (.inr (.inr (.inr hg))))
 have hF := Only.refl (Fp) w
 refine Zen 61 Try.func15 ?_
 refine Zsr ?_
 refine Za ?_
 refine Znn ?_
 refine Zsq ?_
 refine Zsr ?_
 refine Zm ?_
 refine Zk cf43 (cnone_c hB) ?_
 rintro v w9 ⟨rfl, hw9⟩
 obtain rfl := hw9.symm
 refine Znn ?_
 refine Zcf ?_
 refine Zsk ?_
 refine Znx ?_
 refine Zsr ?_
 refine Zm ?_
 refine Zm ?_
 refine Zk (args := #[.int .u32 addr, .int .i64 width]) cf54 (place_c addr width (by omega) _) ?_
 rintro v w9 ⟨rfl, hw9⟩
 obtain rfl := hw9.symm
 refine Zm ?_
 refine Zt ?_
 refine Zt ?_
 refine Zt ?_
 refine Za ?_
 refine Za ?_
 refine Za ?_
 refine Znn ?_
 refine Zsq ?_
 refine Zsq ?_
 intro a fr
 rw [hrt] at fr
 revert a
 refine Zrg ?_
 refine Zm ?_
 refine Zv (.bool false) (fun _ fr => x_not rfl (fr.ev rfl) rfl) ?_
 refine Znn ?_
 refine Zcf ?_
 refine Zsk ?_
 refine Znx ?_
 refine Zsq ?_
 have hrd := rightA_yes (by omega) hrt
 refine Zrg ?_
 refine Zm ?_
 refine Zn ?_
 refine Zf fo83_1 ?_
 refine Zd pl79 (hB.cell 1 rfl) ?_
 refine Zm ?_
 refine Zk (args := #[.pointer (some ⟨lb, 0, none⟩), .int .u32 (addr / 16)]) cf55 (find_c (addr / 16) (by omega) hL) ?_
 rintro v w5 ⟨rfl, hN6⟩
 refine Zm ?_
 refine Zt ?_
 refine Zt ?_
 refine Zna (z := zv1) (cs := lnE.arr ln0) (by kernel_rfl) fun b7 w8 hN9 B10 hb11 => ?_
 replace hB := hB.new hN6
 have ne_b_b7 : NE b b7 := NE.mk (Nat.lt_of_lt_of_le hB.lt hb11)
 replace hL := hL.new hN6
 have ap_FpL_b7 : ¬ FpL b7 := hL.apart hb11
 replace hA := hA.new hN6
 have ap_FpA_b7 : ¬ FpA b7 := hA.apart hb11
 replace hG := hG.new hN6
 have ap_FpG_b7 : ¬ FpG b7 := hG.apart hb11
 replace hF := hF.trNew hN6
 have g_b7 := Nat.le_trans hF.size hb11
 refine ZsS sz39 (lnE.all _) B10 (lnE.size _) (lnE.size _) fun w12 hO13 hBq => ?_
 replace B10 := hBq
 clear hBq
 refine Za ?_
 refine Znn ?_
 refine Zsq ?_
 refine Zsr ?_
 refine Zf fo39_1 ?_
 refine Zd (v := .int .i64 (((getN L (addr / 16)).getD ln0).state)) pl36 (B10.cell 1 rfl) ?_
 refine Zk cf44 (writes_c (((getN L (addr / 16)).getD ln0).state) _) ?_
 rintro v _ ⟨rfl, hw9⟩
 obtain rfl := hw9.symm
 intro a fr
 rw [hwx] at fr
 revert a
 refine Zv (.bool false) (fun _ fr => x_not rfl (fr.ev rfl) rfl) ?_
 refine Znn ?_
 refine Zcf ?_
 refine Zsk ?_
 refine Znx ?_
 refine Zsq ?_
 refine Zsr ?_
 refine Zm ?_
 refine Zm ?_
 refine Znn ?_
 refine Zbl ?_
 intro a fr
 replace hB := (hB.new hN9).only hO13 ne_b_b7
 replace hL := (hL.new hN9).only hO13 (ne1P ap_FpL_b7)
 replace hA := (hA.new hN9).only hO13 (ne1P ap_FpA_b7)
 replace hG := (hG.new hN9).only hO13 (ne1P ap_FpG_b7)
 replace hF := (hF.trNew hN9).loc hO13 (.inr g_b7)
 refine fx_loop (fun nM a wL => ∃ j : Nat, nM = (width - j).toNat ∧ Fr (61, []) [(0, .pointer (some ⟨b, 0, none⟩)), (1, .int .u32 addr), (2, .int .i64 width), (3, .int .u32 value), (9, .int .u32 (addr / 16)), (10, .int .i64 (addr % 16)), (12, .pointer (some ⟨b7, 0, none⟩)), (39, .int .i64 width), (40, .int .i64 ((j : Nat) : Int))] a ∧ Only (Fp) w wL ∧ Blk wL b 83 #[.int .i64 id, .pointer (some ⟨lb, 0, none⟩), pa, pg] ∧ LinesAt wL FpL lb n ways L ∧ AskAt wL FpA pa ask ∧ GivAt wL FpG pg giv ∧ Blk wL b7 39 (lnE.arr { ((getN L (addr / 16)).getD ln0) with bs := wrB ((getN L (addr / 16)).getD ln0).bs (addr % 16).toNat value j }) ∧ ((j : Nat) : Int) ≤ width) (n0 := _) ⟨0, rfl, fr.sub ⟨rfl, rfl, rfl, rfl, rfl, rfl, rfl, rfl, rfl, trivial⟩, hF, hB, hL, hA, hG, B10, by omega⟩ ?_
 clear fr a
 rintro n17 a w16 ⟨j, rfl, fr, hF, hB, hL, hA, hG, B10, hj⟩
 revert a
 refine Zsr ?_
 refine Zv _ (fun _ fr => x_lss rfl (fr.ev rfl) (fr.ev rfl) rfl) ?_
 refine Znn ?_
 refine Zsq ?_
 refine Zcd (fun hc18 => ?_) (fun hc18 => ?_)
 ·have hc18 := of_decide_eq_true hc18
  refine Zsk ?_
  refine Znx ?_
  refine Zsq ?_
  refine Zbl ?_
  refine Zsr ?_
  refine Zm ?_
  refine Za ?_
  refine Znn ?_
  refine Zrg ?_
  refine Zm ?_
  refine Zm ?_
  refine Zv _ (fun _ fr => x_add rfl (fr.ev rfl) (fr.ev rfl) (i64w (r := ((((addr % 16).toNat) + j : Nat) : Int)) (by omega) (by omega))) ?_
  refine Zm ?_
  refine Zm ?_
  refine Zv _ (fun _ fr => x_mul rfl rfl (fr.ev rfl) (i64w (r := ((8 * j : Nat) : Int)) (by omega) (by omega))) ?_
  refine Zv (.int .u32 (value / 256 ^ j)) (fun _ fr => x_shr rfl (fr.ev rfl) (fr.ev rfl) (by omega) (sh_dn (by omega))) ?_
  refine Zv _ (fun _ fr => x_convert Try.underlying32 Try.underlying5 rfl (fr.ev rfl) (u8m _)) ?_
  refine Zf fo39_2 ?_
  refine Zv (.pointer (some ⟨b7, 2 + (((addr % 16).toNat) + j), none⟩)) (fun _ fr => x_indexArr Try.underlying22 sz16 rfl (fr.ev rfl) (fr.ev rfl) (by omega) (show 2 + (((addr % 16).toNat) + j) * 1 = 2 + (((addr % 16).toNat) + j) by omega)) ?_
  refine Zs1 (cs' := lnE.arr { ((getN L (addr / 16)).getD ln0) with bs := wrB ((getN L (addr / 16)).getD ln0).bs (addr % 16).toNat value (j + 1) }) sz5 B10 (by rw [lnE.size]; show _ < 18; omega) (ln_setb ((getN L (addr / 16)).getD ln0) (addr % 16).toNat j value (by omega)) fun w19 hO20 hBq => ?_
  replace B10 := hBq
  clear hBq
  refine Znl ?_
  refine Zb ?_
  refine Znx ?_
  refine Zrg ?_
  refine Zv _ (fun _ fr => x_add rfl (fr.ev rfl) rfl (i64w (r := ((j + 1 : Nat) : Int)) (by omega) (by omega))) ?_
  refine Zm ?_
  intro a fr
  refine wpList_nil ?_
  refine fx_next ?_
  replace hB := hB.only hO20 ne_b_b7
  replace hL := hL.only hO20 (ne1P ap_FpL_b7)
  replace hA := hA.only hO20 (ne1P ap_FpA_b7)
  replace hG := hG.only hO20 (ne1P ap_FpG_b7)
  replace hF := hF.loc hO20 (.inr g_b7)
  exact ⟨_, by omega, (j + 1), rfl, fr.sub ⟨rfl, rfl, rfl, rfl, rfl, rfl, rfl, rfl, rfl, trivial⟩, hF, hB, hL, hA, hG, B10, by omega⟩
 ·have hc18 := of_decide_eq_false hc18
  refine Zex ?_
  refine Zxt ?_
  refine Zxt ?_
  refine Zxx ?_
  refine Znx ?_
  refine Zsr ?_
  refine Zf fo39_1 ?_
  refine Zs1 (cs' := lnE.arr { { ((getN L (addr / 16)).getD ln0) with bs := wrB ((getN L (addr / 16)).getD ln0).bs (addr % 16).toNat value j } with state := 3 }) sz36 B10 (by rw [lnE.size]; decide) (ln_setstate _ _) fun w21 hO22 hBq => ?_
  replace B10 := hBq
  clear hBq
  refine Znn ?_
  refine Zsq ?_
  obtain rfl : j = width.toNat := by omega
  replace B10 : Blk w21 b7 39 (lnE.arr (wrLn ((getN L (addr / 16)).getD ln0) addr width value)) := B10
  have hpe := put_there (n := n) (ways := ways) hwx (wrLn ((getN L (addr / 16)).getD ln0) addr width value) rfl rfl
  have hxw := (wrLn ((getN L (addr / 16)).getD ln0) addr width value).hn
  refine ZhT (n := 6) 6 (fun w => Blk w b 83 #[.int .i64 id, .pointer (some ⟨lb, 0, none⟩), pa, pg] ∧ Blk w b7 39 (lnE.arr (wrLn ((getN L (addr / 16)).getD ln0) addr width value)) ∧ True) ?_
  intro w23 hN24
  replace hB := (hB.only hO22 ne_b_b7).new hN24
  replace B10 := B10.new hN24
  have hS9 := And.intro hB (And.intro B10 trivial)
  refine Zhm 0 hS9 ?_
  refine Zhc 1 hS9 ?_
  refine Zhf 2 fo83_1 hS9 ?_
  refine Zhl 3 pl79 hS9 (fun _ ⟨hB, _⟩ => (hB.cell 1 rfl)) ?_
  refine ZhE 4 lnE ag39 hS9 (fun _ ⟨_, B10, _⟩ => (B10.rangeE lnE)) ?_
  refine Zh1 5 ?_
  replace hL := (hL.only hO22 (ne1P ap_FpL_b7)).new hN24
  refine Zk cf56 (put_c (wrLn ((getN L (addr / 16)).getD ln0) addr width value) hL) ?_
  rintro v w28 ⟨rfl, Fp25, H26, hN29, mv27⟩
  have ap_Fp25_b : ¬ Fp25 b := moved_apartP mv27 ap_FpL_b hB.lt
  replace hA := (hA.only hO22 (ne1P ap_FpA_b7)).new hN24
  have ap2_Fp25_FpA : ∀ k, Fp25 k → FpA k → False := moved_apart2P mv27 ap2_FpL_FpA fun _ hg => hA.lt hg
  replace hG := (hG.only hO22 (ne1P ap_FpG_b7)).new hN24
  have ap2_Fp25_FpG : ∀ k, Fp25 k → FpG k → False := moved_apart2P mv27 ap2_FpL_FpG fun _ hg => hG.lt hg
  replace hF := (hF.loc hO22 (.inr g_b7)).trNew hN24
  have gA_Fp25 := gA_movedP hF mv27 gA_FpL
  clear hL
  intro a fr
  rw [hpe] at fr
  revert a
  replace hB := hB.only hN29 ap_FpL_b
  replace B10 := B10.only hN29 ap_FpL_b7
  refine Zhb ⟨hB, B10, trivial⟩ ?_
  refine Zhn ?_
  refine Ztl ?_
  refine Za ?_
  refine Znn ?_
  refine Zrt ?_
  refine Zre rfl [_] ⟨rfl, trivial⟩ ?_
  replace hA := hA.only hN29 (fun g h1 h2 => (symP ap2_FpL_FpA) g h1 h2)
  replace hG := hG.only hN29 (fun g h1 h2 => (symP ap2_FpL_FpG) g h1 h2)
  replace hF := hF.locP hN29 gA_FpL
  exact ⟨_, rfl, wr_ok (show writeF ⟨id, n, ways, L, ask, giv⟩ addr width value = (_, _) by unfold writeF; rw [if_neg (by rw [hrt]; decide), if_neg (by rw [hwt]; decide)]) (fun k => k = b ∨ Fp25 k ∨ FpA k ∨ FpG k) ⟨lb, Fp25, _, _, FpA, FpG, hB, H26, hA, hG, ⟨ap_Fp25_b, ap_FpA_b, ap_FpG_b, ap2_Fp25_FpA, ap2_Fp25_FpG, ap2_FpA_FpG, fun _ => Iff.rfl⟩⟩ hF (fun g hg => hg.elim (fun e => by rw [e]; exact .inl ((hP.foot b).2 (.inl rfl))) fun h => h.elim (gA_Fp25 g) fun h => h.elim (gA_FpA g) (gA_FpG g))⟩
theorem write_c (addr : Int) (ha : 0 ≤ addr ∧ addr < 4294967296) (width : Int) {w : World} {Fp : Nat → Prop} {b : Nat} {id : Int} {n : Nat} {ways : Int} {L : List Ln} {ask : Option (Int × Bool)} {giv : Option Ln} (H : CacheAt w Fp b ⟨id, n, ways, L, ask, giv⟩) (value : Int) : Calls Try.prog 15 #[.pointer (some ⟨b, 0, none⟩), .int .u32 addr, .int .i64 width, .int .u32 value] w (Ret fun v w' => WriteR w Fp b (writeF ⟨id, n, ways, L, ask, giv⟩ addr width value) v w') := by
  cases hr : rightA addr width with
  | false => exact write_a addr ha width H value hr
  | true => cases hw : writesB (stateOf L (addr / 16)) with
    | false => exact write_m addr ha width H value hr hw
    | true => exact write_y addr ha width H value hr hw
end Go.Proofs.Ytflnlmibkbojcaa
