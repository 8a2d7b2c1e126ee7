/-
  Part 3 of what the claim stands on: walks through the code, plain laws.
-/
import Derived.Test.YtflnlmibkbojcaaZEnds2
set_option maxRecDepth 100000
set_option maxHeartbeats 4000000
namespace Go.Proofs.Ytflnlmibkbojcaa
open Go.RowKit
theorem ask_b1 {w : World} {Fp : Nat → Prop} {b : Nat} {id : Int} {n : Nat} {ways : Int} {L : List Ln} {al : Int} {aw : Bool} {giv : Option Ln} (H : CacheAt w Fp b ⟨id, n, ways, L, (some (al, aw)), giv⟩) (line : Int) (hln : 0 ≤ line ∧ line < 4294967296) (pick : Int) (wr : Bool) : Calls Try.prog 13 #[.pointer (some ⟨b, 0, none⟩), .int .u32 line, .bool wr, .int .i64 pick] w (Ret fun v w' => v = .tuple #[.slice none 0 0, .int .i64 230] ∧ New w w') := by
 obtain ⟨lb, FpL, pa, pg, FpA, FpG, hB, hL, hA, hG, hP⟩ := H
 dsimp only at hB hL hA hG
 have ap_FpL_b := hP.lb
 obtain ⟨hn1, hn2, hw1, hw2⟩ := hL.bd
 have gA_FpA := fun g (hg : FpA g) => (Or.inl trivial : True ∨ w.heap.size ≤ g)
 have hF := Only.refl (fun _ => False) w
 refine Zen 91 Try.func13 ?_
 refine Zsr ?_
 refine Za ?_
 refine Zaq ?_
 refine Zsm ?_
 refine Zk cf43 (cnone_c hB) ?_
 rintro v w9 ⟨rfl, hw9⟩
 obtain rfl := hw9.symm
 refine Znf ?_
 refine Zkn ?_
 refine Zsm ?_
 refine Zm ?_
 refine Zk (args := #[.pointer (some ⟨b, 0, none⟩), .int .u32 line]) cf34 (state_c line (by omega) hB hL ap_FpL_b) ?_
 rintro v w3 ⟨rfl, hN4⟩
 refine Zaq ?_
 refine Zbl ?_
 refine Zsq ?_
 replace hA := hA.new hN4
 obtain ⟨ba, rfl, hAB, hAF, hal⟩ := hA
 have gi_ba := gA_FpA ba ((hAF ba).2 rfl)
 refine Zgm ?_
 refine Zn ?_
 refine Zf fo83_2 ?_
 replace hB := hB.new hN4
 refine Zd pl80 (hB.cell 2 rfl) ?_
 refine Zv (.bool true) (fun _ fr => x_pneq Try.underlying80 rfl (fr.ev rfl) rfl rfl) ?_
 refine Zm ?_
 refine Zss ?_
 refine Zss ?_
 refine Zss ?_
 refine Zss ?_
 refine Zss ?_
 refine Zss ?_
 refine Zss ?_
 refine Zss ?_
 refine Zpt ?_
 refine Zan ?_
 refine Zct ?_
 refine Zsr ?_
 refine Za ?_
 refine Zar ?_
 refine Zr21 ?_
 refine Zre rfl [_, _] ⟨rfl, rfl, trivial⟩ ?_
 replace hF := hF.trNew hN4
 exact ⟨_, rfl, rfl, hF⟩
theorem ask_b2 {w : World} {Fp : Nat → Prop} {b : Nat} {id : Int} {n : Nat} {ways : Int} {L : List Ln} {gx : Ln} (H : CacheAt w Fp b ⟨id, n, ways, L, none, (some gx)⟩) (line : Int) (hln : 0 ≤ line ∧ line < 4294967296) (pick : Int) (hg : gx.num = line) (wr : Bool) : Calls Try.prog 13 #[.pointer (some ⟨b, 0, none⟩), .int .u32 line, .bool wr, .int .i64 pick] w (Ret fun v w' => v = .tuple #[.slice none 0 0, .int .i64 230] ∧ New w w') := by
 obtain ⟨lb, FpL, pa, pg, FpA, FpG, hB, hL, hA, hG, hP⟩ := H
 dsimp only at hB hL hA hG
 have ap_FpL_b := hP.lb
 obtain ⟨hn1, hn2, hw1, hw2⟩ := hL.bd
 have gA_FpG := fun g (hg : FpG g) => (Or.inl trivial : True ∨ w.heap.size ≤ g)
 have hF := Only.refl (fun _ => False) w
 refine Zen 91 Try.func13 ?_
 refine Zsr ?_
 refine Za ?_
 refine Zaq ?_
 refine Zsm ?_
 refine Zk cf43 (cnone_c hB) ?_
 rintro v w9 ⟨rfl, hw9⟩
 obtain rfl := hw9.symm
 refine Znf ?_
 refine Zkn ?_
 refine Zsm ?_
 refine Zm ?_
 refine Zk (args := #[.pointer (some ⟨b, 0, none⟩), .int .u32 line]) cf34 (state_c line (by omega) hB hL ap_FpL_b) ?_
 rintro v w3 ⟨rfl, hN4⟩
 refine Zaq ?_
 refine Zbl ?_
 refine Zsq ?_
 replace hA := hA.new hN4
 obtain ⟨rfl, hA0⟩ := hA
 replace hG := hG.new hN4
 obtain ⟨bg, rfl, hGB, hGF⟩ := hG
 have gi_bg := gA_FpG bg ((hGF bg).2 rfl)
 refine Zgm ?_
 refine Zn ?_
 refine Zf fo83_2 ?_
 replace hB := hB.new hN4
 refine Zd pl80 (hB.cell 2 rfl) ?_
 refine Zv (.bool false) (fun _ fr => x_pneq Try.underlying80 rfl (fr.ev rfl) rfl rfl) ?_
 refine Zmm ?_
 refine Zn ?_
 refine Zf fo83_3 ?_
 refine Zd pl81 (hB.cell 3 rfl) ?_
 refine Zv (.bool true) (fun _ fr => x_pneq Try.underlying81 rfl (fr.ev rfl) rfl rfl) ?_
 refine Zmm ?_
 refine Zn ?_
 refine Zf fo83_3 ?_
 refine Zd pl81 (hB.cell 3 rfl) ?_
 refine Zn ?_
 refine Zf fo39_0 ?_
 refine Zd (v := .int .u32 gx.num) pl32 (hGB.cell 0 rfl) ?_
 refine Zm ?_
 refine Zv (.bool true) (fun _ fr => x_eql rfl (fr.ev rfl) (fr.ev rfl) (decide_eq_true hg)) ?_
 refine Zpt ?_
 refine Zpf ?_
 refine Zan ?_
 refine Zct ?_
 refine Zsr ?_
 refine Za ?_
 refine Zar ?_
 refine Zr21 ?_
 refine Zre rfl [_, _] ⟨rfl, rfl, trivial⟩ ?_
 replace hF := hF.trNew hN4
 exact ⟨_, rfl, rfl, hF⟩
theorem ask_nx0n {w : World} {Fp : Nat → Prop} {b : Nat} {id : Int} {n : Nat} {ways : Int} {L : List Ln} (H : CacheAt w Fp b ⟨id, n, ways, L, none, none⟩) (line : Int) (hln : 0 ≤ line ∧ line < 4294967296) (pick : Int) (wr : Bool) (hs : ¬ stateOf L line ≠ 0) (hv : vicL n ways L line pick = none) : Calls Try.prog 13 #[.pointer (some ⟨b, 0, none⟩), .int .u32 line, .bool wr, .int .i64 pick] w (Ret fun v w' => ∃ A' cap', v = .tuple #[.slice A' ([askM id line wr hln]).length cap', .int .i64 0] ∧ Own msgE w' A' cap' ([askM id line wr hln]) ∧ (∀ g, inA A' g → w.heap.size ≤ g) ∧ ∃ Fp', CacheAt w' Fp' b ⟨id, n, ways, L, (some (line, wr)), none⟩ ∧ Only Fp w w' ∧ ∀ g, Fp' g → Fp g ∨ w.heap.size ≤ g) := by
 obtain ⟨lb, FpL, pa, pg, FpA, FpG, hB, hL, hA, hG, hP⟩ := H
 dsimp only at hB hL hA hG
 have ap_FpL_b := hP.lb
 obtain ⟨hn1, hn2, hw1, hw2⟩ := hL.bd
 have gA_FpL : ∀ g, FpL g → Fp g ∨ w.heap.size ≤ g := fun g hg => .inl ((hP.foot g).2 (.inr (.inl hg)))
 have hF := Only.refl (Fp) w
 refine Zen 91 Try.func13 ?_
 refine Zsr ?_
 refine Za ?_
 refine Zaq ?_
 refine Zsm ?_
 refine Zk cf43 (cnone_c hB) ?_
 rintro v w9 ⟨rfl, hw9⟩
 obtain rfl := hw9.symm
 refine Znf ?_
 refine Zkn ?_
 refine Zsm ?_
 refine Zm ?_
 refine Zk (args := #[.pointer (some ⟨b, 0, none⟩), .int .u32 line]) cf34 (state_c line (by omega) hB hL ap_FpL_b) ?_
 rintro v w3 ⟨rfl, hN4⟩
 refine Zaq ?_
 refine Zbl ?_
 refine Zsq ?_
 replace hA := hA.new hN4
 obtain ⟨rfl, hA0⟩ := hA
 replace hG := hG.new hN4
 obtain ⟨rfl, hG0⟩ := hG
 refine Zgm ?_
 refine Zn ?_
 refine Zf fo83_2 ?_
 replace hB := hB.new hN4
 refine Zd pl80 (hB.cell 2 rfl) ?_
 refine Zv (.bool false) (fun _ fr => x_pneq Try.underlying80 rfl (fr.ev rfl) rfl rfl) ?_
 refine Zmm ?_
 refine Zn ?_
 refine Zf fo83_3 ?_
 refine Zd pl81 (hB.cell 3 rfl) ?_
 refine Zv (.bool false) (fun _ fr => x_pneq Try.underlying81 rfl (fr.ev rfl) rfl rfl) ?_
 refine Zm ?_
 refine Zss ?_
 refine Zss ?_
 refine Zss ?_
 refine Zss ?_
 refine Zs ?_
 refine Zpf ?_
 refine Zpf ?_
 refine Zan ?_
 refine Zcf ?_
 refine Zsm ?_
 refine Zv (.bool false) (fun _ fr => x_neq rfl (fr.ev rfl) rfl (decide_eq_false hs)) ?_
 refine Zm ?_
 refine Zss ?_
 refine Zss ?_
 refine Zss ?_
 refine Zpf ?_
 refine Zan ?_
 refine Zcf ?_
 refine Zsk ?_
 refine Zbn ?_
 refine Zsq ?_
 refine Zsm ?_
 refine Zn ?_
 refine Zf fo83_1 ?_
 refine Zd pl79 (hB.cell 1 rfl) ?_
 refine Zmm ?_
 replace hL := hL.new hN4
 refine Zk (args := #[.pointer (some ⟨lb, 0, none⟩), .int .u32 line, .int .i64 pick]) cf45 (victim_c line (by omega) pick hL) ?_
 rintro v w5 ⟨rfl, hN6⟩
 intro a fr
 rw [hv] at fr
 simp only [Option.getD_none, Option.isSome_none] at fr
 revert a
 refine Zm ?_
 refine Ztt ?_
 refine Zna (z := zv1) (cs := lnE.arr ln0) (by kernel_rfl) fun b7 w8 hN9 B10 hb11 => ?_
 replace hB := hB.new hN6
 have ne_b_b7 := nelt hB.lt hb11
 replace hL := hL.new hN6
 have ap_FpL_b7 := hL.apart hb11
 replace hF := (hF.trNew hN4).trNew hN6
 have g_b7 := hF.sz hb11
 refine ZsS sz39 (lnE.all _) B10 (lnE.size _) (lnE.size _) fun w12 hO13 hBq => ?_
 clear hBq
 refine Zan ?_
 refine Zsm ?_
 refine Znf ?_
 refine Zkn ?_
 refine Zsm ?_
 refine Zmm ?_
 refine Zv (.agg (#[.int .u32 line, .bool wr])) (fun a fr => x_build (cells := #[.int .u32 line, .bool wr]) rfl (by simp only [List.map_toArray, List.map_cons, List.map_nil, show a.eval (.tmp 77) = .int .u32 line from fr.ev rfl, show a.eval (.tmp 78) = .bool wr from fr.ev rfl]; kernel_rfl)) ?_
 refine Znb (cs := #[.int .u32 line, .bool wr]) fun b14 w15 hN16 B17 hb18 => ?_
 replace hB := (hB.new hN9).only hO13 ne_b_b7
 have ne_b_b14 := nelt hB.lt hb18
 replace hL := (hL.new hN9).only hO13 (ne1P ap_FpL_b7)
 have ap_FpL_b14 := hL.apart hb18
 replace hF := (hF.trNew hN9).loc hO13 (.inr g_b7)
 have g_b14 := hF.sz hb18
 refine Zn ?_
 refine Zf fo83_2 ?_
 replace hB := hB.new hN16
 refine Zs1 (cs' := #[.int .i64 id, .pointer (some ⟨lb, 0, none⟩), .pointer (some ⟨b14, 0, none⟩), .pointer none]) sz80 hB (show 2 < 4 by decide) rfl fun w19 hO20 hB => ?_
 refine Znn ?_
 refine Zsr ?_
 refine Zaq ?_
 refine Zsm ?_
 refine Znn ?_
 refine Zcd (fun hc21 => ?_) (fun hc21 => ?_)
 ·subst hc21
  refine Zrg ?_
  refine Zan ?_
  refine Zsm ?_
  refine Zmm ?_
  refine Zm ?_
  refine Zk (args := #[.pointer (some ⟨b, 0, none⟩), .int .i64 2, .int .u32 line]) cf47 (msg_c hB 2 line (by omega)) ?_
  rintro v w22 ⟨rfl, hN23⟩
  intro a fr
  refine fx_build1 (E := msgE) (p := (mkM 2 id 4 line)) elMsg (by decide) fr rfl rfl (by decide) rfl (fr.ev rfl) ?_
  clear fr a
  intro A24 w25 hN26 O27 hA28
  intro a fr
  refine fx_append (E := msgE) (l := []) (l' := [(mkM 2 id 4 line)]) elMsg fr rfl rfl (by decide) rfl (fr.ev rfl) (fr.ev rfl) (by first | rfl | (simp; done) | (simp; omega)) (by first | rfl | (simp; done) | (simp; omega)) Own.nil O27.view (by first | omega | (simp only [List.length_append, List.length_cons, List.length_nil, List.nil_append]; omega)) (by first | (unfold maxLen; done) | (unfold maxLen; first | omega | (simp only [List.length_append, List.length_cons, List.length_nil]; omega) | (simp; done) | (simp; omega))) ?_
  clear fr a
  intro A29 cap30 w31 O32 hO33 mv34
  replace hF := (((hF.trNew hN16).loc hO20 (.inl ((hP.foot b).2 (.inl rfl)))).trNew hN23).trNew hN26
  have gN_A29 := fun g (hg : inA A29 g) => (mv34 g hg).elim (fun h => absurd h (apart_none g)) (fun h => Nat.le_trans hF.size h)
  replace hO33 := only_none hO33
  refine Za ?_
  refine Zar ?_
  refine Zre rfl [_, _] ⟨rfl, rfl, trivial⟩ ?_
  have gi_b14 : Fp b14 ∨ w.heap.size ≤ b14 := .inr g_b14
  replace hL := ((((hL.new hN16).only hO20 (ne1P ap_FpL_b)).new hN23).new hN26).new hO33
  replace B17 := (((B17.only hO20 ne_b_b14.symm).new hN23).new hN26).new hO33
  replace hB := ((hB.new hN23).new hN26).new hO33
  replace hF := hF.trNew hO33
  exact ⟨_, rfl, A29, cap30, rfl, O32, gN_A29, (fun k => k = b ∨ FpL k ∨ (fun k => k = b14) k ∨ (fun _ => False) k), ⟨lb, FpL, _, _, (fun k => k = b14), (fun _ => False), hB, hL, ⟨b14, rfl, B17, fun _ => Iff.rfl, hln⟩, ⟨rfl, fun _ h => h⟩, ⟨ap_FpL_b, (fun e => (show ¬ b = b14 from ne_b_b14) e), (fun h => h), (fun k hk e => ap_FpL_b14 (e ▸ hk)), (fun _ _ h => h), (fun _ _ h => h), fun _ => Iff.rfl⟩⟩, hF, (fun g hg => hg.elim (fun e => by rw [e]; exact .inl ((hP.foot b).2 (.inl rfl))) fun h => h.elim (gA_FpL g) fun h => h.elim (fun e => by rw [e]; exact gi_b14) (fun h => h.elim))⟩
 ·subst hc21
  refine Zkn ?_
  refine Zsm ?_
  refine Zmm ?_
  refine Zm ?_
  refine Zk (args := #[.pointer (some ⟨b, 0, none⟩), .int .i64 1, .int .u32 line]) cf47 (msg_c hB 1 line (by omega)) ?_
  rintro v w35 ⟨rfl, hN36⟩
  intro a fr
  refine fx_build1 (E := msgE) (p := (mkM 1 id 4 line)) elMsg (by decide) fr rfl rfl (by decide) rfl (fr.ev rfl) ?_
  clear fr a
  intro A37 w38 hN39 O40 hA41
  intro a fr
  refine fx_append (E := msgE) (l := []) (l' := [(mkM 1 id 4 line)]) elMsg fr rfl rfl (by decide) rfl (fr.ev rfl) (fr.ev rfl) (by first | rfl | (simp; done) | (simp; omega)) (by first | rfl | (simp; done) | (simp; omega)) Own.nil O40.view (by first | omega | (simp only [List.length_append, List.length_cons, List.length_nil, List.nil_append]; omega)) (by first | (unfold maxLen; done) | (unfold maxLen; first | omega | (simp only [List.length_append, List.length_cons, List.length_nil]; omega) | (simp; done) | (simp; omega))) ?_
  clear fr a
  intro A42 cap43 w44 O45 hO46 mv47
  replace hF := (((hF.trNew hN16).loc hO20 (.inl ((hP.foot b).2 (.inl rfl)))).trNew hN36).trNew hN39
  have gN_A42 := fun g (hg : inA A42 g) => (mv47 g hg).elim (fun h => absurd h (apart_none g)) (fun h => Nat.le_trans hF.size h)
  replace hO46 := only_none hO46
  refine Za ?_
  refine Zar ?_
  refine Zre rfl [_, _] ⟨rfl, rfl, trivial⟩ ?_
  have gi_b14 : Fp b14 ∨ w.heap.size ≤ b14 := .inr g_b14
  replace hL := ((((hL.new hN16).only hO20 (ne1P ap_FpL_b)).new hN36).new hN39).new hO46
  replace B17 := (((B17.only hO20 ne_b_b14.symm).new hN36).new hN39).new hO46
  replace hB := ((hB.new hN36).new hN39).new hO46
  replace hF := hF.trNew hO46
  exact ⟨_, rfl, A42, cap43, rfl, O45, gN_A42, (fun k => k = b ∨ FpL k ∨ (fun k => k = b14) k ∨ (fun _ => False) k), ⟨lb, FpL, _, _, (fun k => k = b14), (fun _ => False), hB, hL, ⟨b14, rfl, B17, fun _ => Iff.rfl, hln⟩, ⟨rfl, fun _ h => h⟩, ⟨ap_FpL_b, (fun e => (show ¬ b = b14 from ne_b_b14) e), (fun h => h), (fun k hk e => ap_FpL_b14 (e ▸ hk)), (fun _ _ h => h), (fun _ _ h => h), fun _ => Iff.rfl⟩⟩, hF, (fun g hg => hg.elim (fun e => by rw [e]; exact .inl ((hP.foot b).2 (.inl rfl))) fun h => h.elim (gA_FpL g) fun h => h.elim (fun e => by rw [e]; exact gi_b14) (fun h => h.elim))⟩
theorem ask_sx0n {w : World} {Fp : Nat → Prop} {b : Nat} {id : Int} {n : Nat} {ways : Int} {L : List Ln} (H : CacheAt w Fp b ⟨id, n, ways, L, none, none⟩) (line : Int) (hln : 0 ≤ line ∧ line < 4294967296) (pick : Int) (wr : Bool) (hs : ¬ stateOf L line ≠ 0) (vx : Ln) (hv : vicL n ways L line pick = some vx) (hx : vx.state = 1) : Calls Try.prog 13 #[.pointer (some ⟨b, 0, none⟩), .int .u32 line, .bool wr, .int .i64 pick] w (Ret fun v w' => ∃ A' cap', v = .tuple #[.slice A' ([askM id line wr hln]).length cap', .int .i64 0] ∧ Own msgE w' A' cap' ([askM id line wr hln]) ∧ (∀ g, inA A' g → w.heap.size ≤ g) ∧ ∃ Fp', CacheAt w' Fp' b ⟨id, n, ways, dropL L vx.num, (some (line, wr)), none⟩ ∧ Only Fp w w' ∧ ∀ g, Fp' g → Fp g ∨ w.heap.size ≤ g) := by
 obtain ⟨lb, FpL, pa, pg, FpA, FpG, hB, hL, hA, hG, hP⟩ := H
 dsimp only at hB hL hA hG
 have ap_FpL_b := hP.lb
 obtain ⟨hn1, hn2, hw1, hw2⟩ := hL.bd
 have gA_FpL : ∀ g, FpL g → Fp g ∨ w.heap.size ≤ g := fun g hg => .inl ((hP.foot g).2 (.inr (.inl hg)))
 have hF := Only.refl (Fp) w
 refine Zen 91 Try.func13 ?_
 refine Zsr ?_
 refine Za ?_
 refine Zaq ?_
 refine Zsm ?_
 refine Zk cf43 (cnone_c hB) ?_
 rintro v w9 ⟨rfl, hw9⟩
 obtain rfl := hw9.symm
 refine Znf ?_
 refine Zkn ?_
 refine Zsm ?_
 refine Zm ?_
 refine Zk (args := #[.pointer (some ⟨b, 0, none⟩), .int .u32 line]) cf34 (state_c line (by omega) hB hL ap_FpL_b) ?_
 rintro v w3 ⟨rfl, hN4⟩
 refine Zaq ?_
 refine Zbl ?_
 refine Zsq ?_
 replace hA := hA.new hN4
 obtain ⟨rfl, hA0⟩ := hA
 replace hG := hG.new hN4
 obtain ⟨rfl, hG0⟩ := hG
 refine Zgm ?_
 refine Zn ?_
 refine Zf fo83_2 ?_
 replace hB := hB.new hN4
 refine Zd pl80 (hB.cell 2 rfl) ?_
 refine Zv (.bool false) (fun _ fr => x_pneq Try.underlying80 rfl (fr.ev rfl) rfl rfl) ?_
 refine Zmm ?_
 refine Zn ?_
 refine Zf fo83_3 ?_
 refine Zd pl81 (hB.cell 3 rfl) ?_
 refine Zv (.bool false) (fun _ fr => x_pneq Try.underlying81 rfl (fr.ev rfl) rfl rfl) ?_
 refine Zm ?_
 refine Zss ?_
 refine Zss ?_
 refine Zss ?_
 refine Zss ?_
 refine Zs ?_
 refine Zpf ?_
 refine Zpf ?_
 refine Zan ?_
 refine Zcf ?_
 refine Zsm ?_
 refine Zv (.bool false) (fun _ fr => x_neq rfl (fr.ev rfl) rfl (decide_eq_false hs)) ?_
 refine Zm ?_
 refine Zss ?_
 refine Zss ?_
 refine Zss ?_
 refine Zpf ?_
 refine Zan ?_
 refine Zcf ?_
 refine Zsk ?_
 refine Zbn ?_
 refine Zsq ?_
 refine Zsm ?_
 refine Zn ?_
 refine Zf fo83_1 ?_
 refine Zd pl79 (hB.cell 1 rfl) ?_
 refine Zmm ?_
 replace hL := hL.new hN4
 refine Zk (args := #[.pointer (some ⟨lb, 0, none⟩), .int .u32 line, .int .i64 pick]) cf45 (victim_c line (by omega) pick hL) ?_
 rintro v w5 ⟨rfl, hN6⟩
 intro a fr
 rw [hv] at fr
 simp only [Option.getD_some, Option.isSome_some] at fr
 revert a
 refine Zm ?_
 refine Ztt ?_
 refine Zna (z := zv1) (cs := lnE.arr ln0) (by kernel_rfl) fun b7 w8 hN9 B10 hb11 => ?_
 replace hB := hB.new hN6
 have ne_b_b7 := nelt hB.lt hb11
 replace hL := hL.new hN6
 have ap_FpL_b7 := hL.apart hb11
 replace hF := (hF.trNew hN4).trNew hN6
 have g_b7 := hF.sz hb11
 refine ZsS sz39 (lnE.all _) B10 (lnE.size _) (lnE.size _) fun w12 hO13 B10 => ?_
 refine Zan ?_
 refine Zsm ?_
 refine Znt ?_
 refine Zsm ?_
 refine ZE lnE ag39 (B10.rangeE lnE) ?_
 replace hB := (hB.new hN9).only hO13 ne_b_b7
 replace hL := (hL.new hN9).only hO13 (ne1P ap_FpL_b7)
 refine Zk cf46 (out_s hB hL ap_FpL_b vx hx) ?_
 rintro v w18 ⟨rfl, hB14, Fp15, H16, mv17, hN19⟩
 have ap_Fp15_b : ¬ Fp15 b := moved_apartP mv17 ap_FpL_b hB.lt
 replace hF := (hF.trNew hN9).loc hO13 (.inr g_b7)
 have gA_Fp15 := gA_movedP hF mv17 gA_FpL
 clear hL
 replace hB := hB14
 clear hB14
 refine Zm ?_
 refine Ztt ?_
 refine Za ?_
 refine Zaq ?_
 refine Zsm ?_
 refine Zv (.bool false) (fun _ fr => x_not rfl (fr.ev rfl) rfl) ?_
 refine Znf ?_
 refine Zkn ?_
 refine Zgm ?_
 refine Zan ?_
 refine Zsm ?_
 refine Zmm ?_
 refine Zv (.agg (#[.int .u32 line, .bool wr])) (fun a fr => x_build (cells := #[.int .u32 line, .bool wr]) rfl (by simp only [List.map_toArray, List.map_cons, List.map_nil, show a.eval (.tmp 77) = .int .u32 line from fr.ev rfl, show a.eval (.tmp 78) = .bool wr from fr.ev rfl]; kernel_rfl)) ?_
 refine Znb (cs := #[.int .u32 line, .bool wr]) fun b20 w21 hN22 B23 hb24 => ?_
 have ne_b_b20 := nelt hB.lt hb24
 have ap_Fp15_b20 := H16.apart hb24
 replace hF := hF.locS hN19 (fun i => (fun h => h.elim (fun e => by rw [e]; exact (.inl ((hP.foot b).2 (.inl rfl)))) (fun h => gA_FpL i h)))
 have g_b20 := hF.sz hb24
 refine Zn ?_
 refine Zf fo83_2 ?_
 replace hB := hB.new hN22
 refine Zs1 (cs' := #[.int .i64 id, .pointer (some ⟨lb, 0, none⟩), .pointer (some ⟨b20, 0, none⟩), .pointer none]) sz80 hB (show 2 < 4 by decide) rfl fun w25 hO26 hB => ?_
 refine Znn ?_
 refine Zsr ?_
 refine Zaq ?_
 refine Zsm ?_
 refine Znn ?_
 refine Zcd (fun hc27 => ?_) (fun hc27 => ?_)
 ·subst hc27
  refine Zrg ?_
  refine Zan ?_
  refine Zsm ?_
  refine Zmm ?_
  refine Zm ?_
  refine Zk (args := #[.pointer (some ⟨b, 0, none⟩), .int .i64 2, .int .u32 line]) cf47 (msg_c hB 2 line (by omega)) ?_
  rintro v w28 ⟨rfl, hN29⟩
  intro a fr
  refine fx_build1 (E := msgE) (p := (mkM 2 id 4 line)) elMsg (by decide) fr rfl rfl (by decide) rfl (fr.ev rfl) ?_
  clear fr a
  intro A30 w31 hN32 O33 hA34
  intro a fr
  refine fx_append (E := msgE) (l := []) (l' := [(mkM 2 id 4 line)]) elMsg fr rfl rfl (by decide) rfl (fr.ev rfl) (fr.ev rfl) (by first | rfl | (simp; done) | (simp; omega)) (by first | rfl | (simp; done) | (simp; omega)) Own.nil O33.view (by first | omega | (simp only [List.length_append, List.length_cons, List.length_nil, List.nil_append]; omega)) (by first | (unfold maxLen; done) | (unfold maxLen; first | omega | (simp only [List.length_append, List.length_cons, List.length_nil]; omega) | (simp; done) | (simp; omega))) ?_
  clear fr a
  intro A35 cap36 w37 O38 hO39 mv40
  replace hF := (((hF.trNew hN22).loc hO26 (.inl ((hP.foot b).2 (.inl rfl)))).trNew hN29).trNew hN32
  have gN_A35 := fun g (hg : inA A35 g) => (mv40 g hg).elim (fun h => absurd h (apart_none g)) (fun h => Nat.le_trans hF.size h)
  replace hO39 := only_none hO39
  refine Za ?_
  refine Zar ?_
  refine Zre rfl [_, _] ⟨rfl, rfl, trivial⟩ ?_
  have gi_b20 : Fp b20 ∨ w.heap.size ≤ b20 := .inr g_b20
  replace H16 := ((((H16.new hN22).only hO26 (ne1P ap_Fp15_b)).new hN29).new hN32).new hO39
  replace B23 := (((B23.only hO26 ne_b_b20.symm).new hN29).new hN32).new hO39
  replace hB := ((hB.new hN29).new hN32).new hO39
  replace hF := hF.trNew hO39
  exact ⟨_, rfl, A35, cap36, rfl, O38, gN_A35, (fun k => k = b ∨ Fp15 k ∨ (fun k => k = b20) k ∨ (fun _ => False) k), ⟨lb, Fp15, _, _, (fun k => k = b20), (fun _ => False), hB, H16, ⟨b20, rfl, B23, fun _ => Iff.rfl, hln⟩, ⟨rfl, fun _ h => h⟩, ⟨ap_Fp15_b, (fun e => (show ¬ b = b20 from ne_b_b20) e), (fun h => h), (fun k hk e => ap_Fp15_b20 (e ▸ hk)), (fun _ _ h => h), (fun _ _ h => h), fun _ => Iff.rfl⟩⟩, hF, (fun g hg => hg.elim (fun e => by rw [e]; exact .inl ((hP.foot b).2 (.inl rfl))) fun h => h.elim (gA_Fp15 g) fun h => h.elim (fun e => by rw [e]; exact gi_b20) (fun h => h.elim))⟩
 ·subst hc27
  refine Zkn ?_
  refine Zsm ?_
  refine Zmm ?_
  refine Zm ?_
  refine Zk (args := #[.pointer (some ⟨b, 0, none⟩), .int .i64 1, .int .u32 line]) cf47 (msg_c hB 1 line (by omega)) ?_
  rintro v w41 ⟨rfl, hN42⟩
  intro a fr
  refine fx_build1 (E := msgE) (p := (mkM 1 id 4 line)) elMsg (by decide) fr rfl rfl (by decide) rfl (fr.ev rfl) ?_
  clear fr a
  intro A43 w44 hN45 O46 hA47
  intro a fr
  refine fx_append (E := msgE) (l := []) (l' := [(mkM 1 id 4 line)]) elMsg fr rfl rfl (by decide) rfl (fr.ev rfl) (fr.ev rfl) (by first | rfl | (simp; done) | (simp; omega)) (by first | rfl | (simp; done) | (simp; omega)) Own.nil O46.view (by first | omega | (simp only [List.length_append, List.length_cons, List.length_nil, List.nil_append]; omega)) (by first | (unfold maxLen; done) | (unfold maxLen; first | omega | (simp only [List.length_append, List.length_cons, List.length_nil]; omega) | (simp; done) | (simp; omega))) ?_
  clear fr a
  intro A48 cap49 w50 O51 hO52 mv53
  replace hF := (((hF.trNew hN22).loc hO26 (.inl ((hP.foot b).2 (.inl rfl)))).trNew hN42).trNew hN45
  have gN_A48 := fun g (hg : inA A48 g) => (mv53 g hg).elim (fun h => absurd h (apart_none g)) (fun h => Nat.le_trans hF.size h)
  replace hO52 := only_none hO52
  refine Za ?_
  refine Zar ?_
  refine Zre rfl [_, _] ⟨rfl, rfl, trivial⟩ ?_
  have gi_b20 : Fp b20 ∨ w.heap.size ≤ b20 := .inr g_b20
  replace H16 := ((((H16.new hN22).only hO26 (ne1P ap_Fp15_b)).new hN42).new hN45).new hO52
  replace B23 := (((B23.only hO26 ne_b_b20.symm).new hN42).new hN45).new hO52
  replace hB := ((hB.new hN42).new hN45).new hO52
  replace hF := hF.trNew hO52
  exact ⟨_, rfl, A48, cap49, rfl, O51, gN_A48, (fun k => k = b ∨ Fp15 k ∨ (fun k => k = b20) k ∨ (fun _ => False) k), ⟨lb, Fp15, _, _, (fun k => k = b20), (fun _ => False), hB, H16, ⟨b20, rfl, B23, fun _ => Iff.rfl, hln⟩, ⟨rfl, fun _ h => h⟩, ⟨ap_Fp15_b, (fun e => (show ¬ b = b20 from ne_b_b20) e), (fun h => h), (fun k hk e => ap_Fp15_b20 (e ▸ hk)), (fun _ _ h => h), (fun _ _ h => h), fun _ => Iff.rfl⟩⟩, hF, (fun g hg => hg.elim (fun e => by rw [e]; exact .inl ((hP.foot b).2 (.inl rfl))) fun h => h.elim (gA_Fp15 g) fun h => h.elim (fun e => by rw [e]; exact gi_b20) (fun h => h.elim))⟩
theorem ask_px0n {w : World} {Fp : Nat → Prop} {b : Nat} {id : Int} {n : Nat} {ways : Int} {L : List Ln} (H : CacheAt w Fp b ⟨id, n, ways, L, none, none⟩) (line : Int) (hln : 0 ≤ line ∧ line < 4294967296) (pick : Int) (wr : Bool) (hs : ¬ stateOf L line ≠ 0) (vx : Ln) (hv : vicL n ways L line pick = some vx) (hx : ¬ vx.state = 1) : Calls Try.prog 13 #[.pointer (some ⟨b, 0, none⟩), .int .u32 line, .bool wr, .int .i64 pick] w (Ret fun v w' => ∃ A' cap', v = .tuple #[.slice A' ([putM id vx] ++ [askM id line wr hln]).length cap', .int .i64 0] ∧ Own msgE w' A' cap' ([putM id vx] ++ [askM id line wr hln]) ∧ (∀ g, inA A' g → w.heap.size ≤ g) ∧ ∃ Fp', CacheAt w' Fp' b ⟨id, n, ways, dropL L vx.num, (some (line, wr)), (some vx)⟩ ∧ Only Fp w w' ∧ ∀ g, Fp' g → Fp g ∨ w.heap.size ≤ g) := by
 obtain ⟨lb, FpL, pa, pg, FpA, FpG, hB, hL, hA, hG, hP⟩ := H
 dsimp only at hB hL hA hG
 have ap_FpL_b := hP.lb
 obtain ⟨hn1, hn2, hw1, hw2⟩ := hL.bd
 have gA_FpL : ∀ g, FpL g → Fp g ∨ w.heap.size ≤ g := fun g hg => .inl ((hP.foot g).2 (.inr (.inl hg)))
 have hF := Only.refl (Fp) w
 refine Zen 91 Try.func13 ?_
 refine Zsr ?_
 refine Za ?_
 refine Zaq ?_
 refine Zsm ?_
 refine Zk cf43 (cnone_c hB) ?_
 rintro v w9 ⟨rfl, hw9⟩
 obtain rfl := hw9.symm
 refine Znf ?_
 refine Zkn ?_
 refine Zsm ?_
 refine Zm ?_
 refine Zk (args := #[.pointer (some ⟨b, 0, none⟩), .int .u32 line]) cf34 (state_c line (by omega) hB hL ap_FpL_b) ?_
 rintro v w3 ⟨rfl, hN4⟩
 refine Zaq ?_
 refine Zbl ?_
 refine Zsq ?_
 replace hA := hA.new hN4
 obtain ⟨rfl, hA0⟩ := hA
 replace hG := hG.new hN4
 obtain ⟨rfl, hG0⟩ := hG
 refine Zgm ?_
 refine Zn ?_
 refine Zf fo83_2 ?_
 replace hB := hB.new hN4
 refine Zd pl80 (hB.cell 2 rfl) ?_
 refine Zv (.bool false) (fun _ fr => x_pneq Try.underlying80 rfl (fr.ev rfl) rfl rfl) ?_
 refine Zmm ?_
 refine Zn ?_
 refine Zf fo83_3 ?_
 refine Zd pl81 (hB.cell 3 rfl) ?_
 refine Zv (.bool false) (fun _ fr => x_pneq Try.underlying81 rfl (fr.ev rfl) rfl rfl) ?_
 refine Zm ?_
 refine Zss ?_
 refine Zss ?_
 refine Zss ?_
 refine Zss ?_
 refine Zs ?_
 refine Zpf ?_
 refine Zpf ?_
 refine Zan ?_
 refine Zcf ?_
 refine Zsm ?_
 refine Zv (.bool false) (fun _ fr => x_neq rfl (fr.ev rfl) rfl (decide_eq_false hs)) ?_
 refine Zm ?_
 refine Zss ?_
 refine Zss ?_
 refine Zss ?_
 refine Zpf ?_
 refine Zan ?_
 refine Zcf ?_
 refine Zsk ?_
 refine Zbn ?_
 refine Zsq ?_
 refine Zsm ?_
 refine Zn ?_
 refine Zf fo83_1 ?_
 refine Zd pl79 (hB.cell 1 rfl) ?_
 refine Zmm ?_
 replace hL := hL.new hN4
 refine Zk (args := #[.pointer (some ⟨lb, 0, none⟩), .int .u32 line, .int .i64 pick]) cf45 (victim_c line (by omega) pick hL) ?_
 rintro v w5 ⟨rfl, hN6⟩
 intro a fr
 rw [hv] at fr
 simp only [Option.getD_some, Option.isSome_some] at fr
 revert a
 refine Zm ?_
 refine Ztt ?_
 refine Zna (z := zv1) (cs := lnE.arr ln0) (by kernel_rfl) fun b7 w8 hN9 B10 hb11 => ?_
 replace hB := hB.new hN6
 have ne_b_b7 := nelt hB.lt hb11
 replace hL := hL.new hN6
 have ap_FpL_b7 := hL.apart hb11
 replace hF := (hF.trNew hN4).trNew hN6
 have g_b7 := hF.sz hb11
 refine ZsS sz39 (lnE.all _) B10 (lnE.size _) (lnE.size _) fun w12 hO13 B10 => ?_
 refine Zan ?_
 refine Zsm ?_
 refine Znt ?_
 refine Zsm ?_
 refine ZE lnE ag39 (B10.rangeE lnE) ?_
 replace hB := (hB.new hN9).only hO13 ne_b_b7
 replace hL := (hL.new hN9).only hO13 (ne1P ap_FpL_b7)
 refine Zk cf46 (out_n hB hL ap_FpL_b vx hx) ?_
 rintro v w25 ⟨A18, cap19, rfl, O20, hA21, b22, B23, hB14, hb24, Fp15, H16, mv17, ap_Fp15_b22, ap_A18_b22, ap2_Fp15_A18, hN26⟩
 have ap_Fp15_b : ¬ Fp15 b := moved_apartP mv17 ap_FpL_b hB.lt
 replace hF := (hF.trNew hN9).loc hO13 (.inr g_b7)
 have gA_Fp15 := gA_movedP hF mv17 gA_FpL
 have ne_b_b22 := nelt hB.lt hb24
 have g_b22 := hF.sz hb24
 have ap_A18_b : Apart A18 b := new_apart hA21 hB.lt
 have gA_A18 := gA_new hF hA21
 have gN_A18 := fun g (hg : inA A18 g) => Nat.le_trans hF.size (hA21 g hg)
 clear hL
 replace hB := hB14
 clear hB14
 have gi_b22 : Fp b22 ∨ w.heap.size ≤ b22 := .inr g_b22
 refine Zm ?_
 refine Ztt ?_
 refine Za ?_
 refine Zaq ?_
 refine Zsm ?_
 refine Zv (.bool false) (fun _ fr => x_not rfl (fr.ev rfl) rfl) ?_
 refine Znf ?_
 refine Zkn ?_
 refine Zgm ?_
 refine Zan ?_
 refine Zsm ?_
 refine Zmm ?_
 refine Zv (.agg (#[.int .u32 line, .bool wr])) (fun a fr => x_build (cells := #[.int .u32 line, .bool wr]) rfl (by simp only [List.map_toArray, List.map_cons, List.map_nil, show a.eval (.tmp 77) = .int .u32 line from fr.ev rfl, show a.eval (.tmp 78) = .bool wr from fr.ev rfl]; kernel_rfl)) ?_
 refine Znb (cs := #[.int .u32 line, .bool wr]) fun b27 w28 hN29 B30 hb31 => ?_
 have ne_b_b27 := nelt hB.lt hb31
 have ap_A18_b27 := O20.apart hb31
 have ne_b22_b27 := nelt B23.lt hb31
 have ap_Fp15_b27 := H16.apart hb31
 replace hF := hF.locS hN26 (fun i => (fun h => h.elim (fun e => by rw [e]; exact (.inl ((hP.foot b).2 (.inl rfl)))) (fun h => gA_FpL i h)))
 have g_b27 := hF.sz hb31
 refine Zn ?_
 refine Zf fo83_2 ?_
 replace hB := hB.new hN29
 refine Zs1 (cs' := #[.int .i64 id, .pointer (some ⟨lb, 0, none⟩), .pointer (some ⟨b27, 0, none⟩), .pointer (some ⟨b22, 0, none⟩)]) sz80 hB (show 2 < 4 by decide) rfl fun w32 hO33 hB => ?_
 refine Znn ?_
 refine Zsr ?_
 refine Zaq ?_
 refine Zsm ?_
 refine Znn ?_
 refine Zcd (fun hc34 => ?_) (fun hc34 => ?_)
 ·subst hc34
  refine Zrg ?_
  refine Zan ?_
  refine Zsm ?_
  refine Zmm ?_
  refine Zm ?_
  refine Zk (args := #[.pointer (some ⟨b, 0, none⟩), .int .i64 2, .int .u32 line]) cf47 (msg_c hB 2 line (by omega)) ?_
  rintro v w35 ⟨rfl, hN36⟩
  intro a fr
  refine fx_build1 (E := msgE) (p := (mkM 2 id 4 line)) elMsg (by decide) fr rfl rfl (by decide) rfl (fr.ev rfl) ?_
  clear fr a
  intro A37 w38 hN39 O40 hA41
  intro a fr
  replace O20 := (((O20.new hN29).only hO33 (Apart.ne1 ap_A18_b)).new hN36).new hN39
  refine fx_append (E := msgE) (l := [putM id vx]) (l' := [(mkM 2 id 4 line)]) elMsg fr rfl rfl (by decide) rfl (fr.ev rfl) (fr.ev rfl) (by first | rfl | (simp; done) | (simp; omega)) (by first | rfl | (simp; done) | (simp; omega)) O20 O40.view (by first | omega | (simp only [List.length_append, List.length_cons, List.length_nil, List.nil_append]; omega)) (by first | (unfold maxLen; done) | (unfold maxLen; first | omega | (simp only [List.length_append, List.length_cons, List.length_nil]; omega) | (simp; done) | (simp; omega))) ?_
  clear fr a
  intro A42 cap43 w44 O45 hO46 mv47
  replace hF := (((hF.trNew hN29).loc hO33 (.inl ((hP.foot b).2 (.inl rfl)))).trNew hN36).trNew hN39
  have gN_A42 := fun g (hg : inA A42 g) => (mv47 g hg).elim (gN_A18 g) (fun h => Nat.le_trans hF.size h)
  clear O20
  refine Za ?_
  refine Zar ?_
  refine Zre rfl [_, _] ⟨rfl, rfl, trivial⟩ ?_
  have gi_b27 : Fp b27 ∨ w.heap.size ≤ b27 := .inr g_b27
  replace B23 := ((((B23.new hN29).only hO33 ne_b_b22.symm).new hN36).new hN39).only hO46 ap_A18_b22
  replace H16 := ((((H16.new hN29).only hO33 (ne1P ap_Fp15_b)).new hN36).new hN39).only hO46 (fun g h1 h2 => ap2_Fp15_A18 g h1 h2)
  replace B30 := (((B30.only hO33 ne_b_b27.symm).new hN36).new hN39).only hO46 ap_A18_b27
  replace hB := ((hB.new hN36).new hN39).only hO46 ap_A18_b
  replace hF := hF.locA hO46 gA_A18
  exact ⟨_, rfl, A42, cap43, rfl, O45, gN_A42, (fun k => k = b ∨ Fp15 k ∨ (fun k => k = b27) k ∨ (fun k => k = b22) k), ⟨lb, Fp15, _, _, (fun k => k = b27), (fun k => k = b22), hB, H16, ⟨b27, rfl, B30, fun _ => Iff.rfl, hln⟩, ⟨b22, rfl, B23, fun _ => Iff.rfl⟩, ⟨ap_Fp15_b, (fun e => (show ¬ b = b27 from ne_b_b27) e), (fun e => (show ¬ b = b22 from ne_b_b22) e), (fun k hk e => ap_Fp15_b27 (e ▸ hk)), (fun k hk e => ap_Fp15_b22 (e ▸ hk)), (fun k e e2 => (show ¬ b27 = b22 from ne_b22_b27.symm) (e.symm.trans e2)), fun _ => Iff.rfl⟩⟩, hF, (fun g hg => hg.elim (fun e => by rw [e]; exact .inl ((hP.foot b).2 (.inl rfl))) fun h => h.elim (gA_Fp15 g) fun h => h.elim (fun e => by rw [e]; exact gi_b27) (fun e => by rw [e]; exact gi_b22))⟩
 ·subst hc34
  refine Zkn ?_
  refine Zsm ?_
  refine Zmm ?_
  refine Zm ?_
  refine Zk (args := #[.pointer (some ⟨b, 0, none⟩), .int .i64 1, .int .u32 line]) cf47 (msg_c hB 1 line (by omega)) ?_
  rintro v w48 ⟨rfl, hN49⟩
  intro a fr
  refine fx_build1 (E := msgE) (p := (mkM 1 id 4 line)) elMsg (by decide) fr rfl rfl (by decide) rfl (fr.ev rfl) ?_
  clear fr a
  intro A50 w51 hN52 O53 hA54
  intro a fr
  replace O20 := (((O20.new hN29).only hO33 (Apart.ne1 ap_A18_b)).new hN49).new hN52
  refine fx_append (E := msgE) (l := [putM id vx]) (l' := [(mkM 1 id 4 line)]) elMsg fr rfl rfl (by decide) rfl (fr.ev rfl) (fr.ev rfl) (by first | rfl | (simp; done) | (simp; omega)) (by first | rfl | (simp; done) | (simp; omega)) O20 O53.view (by first | omega | (simp only [List.length_append, List.length_cons, List.length_nil, List.nil_append]; omega)) (by first | (unfold maxLen; done) | (unfold maxLen; first | omega | (simp only [List.length_append, List.length_cons, List.length_nil]; omega) | (simp; done) | (simp; omega))) ?_
  clear fr a
  intro A55 cap56 w57 O58 hO59 mv60
  replace hF := (((hF.trNew hN29).loc hO33 (.inl ((hP.foot b).2 (.inl rfl)))).trNew hN49).trNew hN52
  have gN_A55 := fun g (hg : inA A55 g) => (mv60 g hg).elim (gN_A18 g) (fun h => Nat.le_trans hF.size h)
  clear O20
  refine Za ?_
  refine Zar ?_
  refine Zre rfl [_, _] ⟨rfl, rfl, trivial⟩ ?_
  have gi_b27 : Fp b27 ∨ w.heap.size ≤ b27 := .inr g_b27
  replace B23 := ((((B23.new hN29).only hO33 ne_b_b22.symm).new hN49).new hN52).only hO59 ap_A18_b22
  replace H16 := ((((H16.new hN29).only hO33 (ne1P ap_Fp15_b)).new hN49).new hN52).only hO59 (fun g h1 h2 => ap2_Fp15_A18 g h1 h2)
  replace B30 := (((B30.only hO33 ne_b_b27.symm).new hN49).new hN52).only hO59 ap_A18_b27
  replace hB := ((hB.new hN49).new hN52).only hO59 ap_A18_b
  replace hF := hF.locA hO59 gA_A18
  exact ⟨_, rfl, A55, cap56, rfl, O58, gN_A55, (fun k => k = b ∨ Fp15 k ∨ (fun k => k = b27) k ∨ (fun k => k = b22) k), ⟨lb, Fp15, _, _, (fun k => k = b27), (fun k => k = b22), hB, H16, ⟨b27, rfl, B30, fun _ => Iff.rfl, hln⟩, ⟨b22, rfl, B23, fun _ => Iff.rfl⟩, ⟨ap_Fp15_b, (fun e => (show ¬ b = b27 from ne_b_b27) e), (fun e => (show ¬ b = b22 from ne_b_b22) e), (fun k hk e => ap_Fp15_b27 (e ▸ hk)), (fun k hk e => ap_Fp15_b22 (e ▸ hk)), (fun k e e2 => (show ¬ b27 = b22 from ne_b22_b27.symm) (e.symm.trans e2)), fun _ => Iff.rfl⟩⟩, hF, (fun g hg => hg.elim (fun e => by rw [e]; exact .inl ((hP.foot b).2 (.inl rfl))) fun h => h.elim (gA_Fp15 g) fun h => h.elim (fun e => by rw [e]; exact gi_b27) (fun e => by rw [e]; exact gi_b22))⟩
theorem ask_nx0s {w : World} {Fp : Nat → Prop} {b : Nat} {id : Int} {n : Nat} {ways : Int} {L : List Ln} {gx : Ln} (H : CacheAt w Fp b ⟨id, n, ways, L, none, (some gx)⟩) (line : Int) (hln : 0 ≤ line ∧ line < 4294967296) (pick : Int) (hg : ¬ gx.num = line) (wr : Bool) (hs : ¬ stateOf L line ≠ 0) (hv : vicL n ways L line pick = none) : Calls Try.prog 13 #[.pointer (some ⟨b, 0, none⟩), .int .u32 line, .bool wr, .int .i64 pick] w (Ret fun v w' => ∃ A' cap', v = .tuple #[.slice A' ([askM id line wr hln]).length cap', .int .i64 0] ∧ Own msgE w' A' cap' ([askM id line wr hln]) ∧ (∀ g, inA A' g → w.heap.size ≤ g) ∧ ∃ Fp', CacheAt w' Fp' b ⟨id, n, ways, L, (some (line, wr)), (some gx)⟩ ∧ Only Fp w w' ∧ ∀ g, Fp' g → Fp g ∨ w.heap.size ≤ g) := by
 obtain ⟨lb, FpL, pa, pg, FpA, FpG, hB, hL, hA, hG, hP⟩ := H
 dsimp only at hB hL hA hG
 have ap_FpL_b := hP.lb
 have ap_FpG_b := hP.gb
 have ap2_FpL_FpG := hP.lg
 obtain ⟨hn1, hn2, hw1, hw2⟩ := hL.bd
 have gA_FpL : ∀ g, FpL g → Fp g ∨ w.heap.size ≤ g := fun g hg => .inl ((hP.foot g).2 (.inr (.inl hg)))
 have gA_FpG : ∀ g, FpG g → Fp g ∨ w.heap.size ≤ g := fun g hg => .inl ((hP.foot g).2 (.inr (.inr (.inr hg))))
 have hF := Only.refl (Fp) w
 refine Zen 91 Try.func13 ?_
 refine Zsr ?_
 refine Za ?_
 refine Zaq ?_
 refine Zsm ?_
 refine Zk cf43 (cnone_c hB) ?_
 rintro v w9 ⟨rfl, hw9⟩
 obtain rfl := hw9.symm
 refine Znf ?_
 refine Zkn ?_
 refine Zsm ?_
 refine Zm ?_
 refine Zk (args := #[.pointer (some ⟨b, 0, none⟩), .int .u32 line]) cf34 (state_c line (by omega) hB hL ap_FpL_b) ?_
 rintro v w3 ⟨rfl, hN4⟩
 refine Zaq ?_
 refine Zbl ?_
 refine Zsq ?_
 replace hA := hA.new hN4
 obtain ⟨rfl, hA0⟩ := hA
 replace hG := hG.new hN4
 obtain ⟨bg, rfl, hGB, hGF⟩ := hG
 have ne_bg_b : NE bg b := fun e => ap_FpG_b (e ▸ (hGF bg).2 rfl)
 have ap_FpL_bg : ¬ FpL bg := fun h => ap2_FpL_FpG bg h ((hGF bg).2 rfl)
 have gi_bg := gA_FpG bg ((hGF bg).2 rfl)
 refine Zgm ?_
 refine Zn ?_
 refine Zf fo83_2 ?_
 replace hB := hB.new hN4
 refine Zd pl80 (hB.cell 2 rfl) ?_
 refine Zv (.bool false) (fun _ fr => x_pneq Try.underlying80 rfl (fr.ev rfl) rfl rfl) ?_
 refine Zmm ?_
 refine Zn ?_
 refine Zf fo83_3 ?_
 refine Zd pl81 (hB.cell 3 rfl) ?_
 refine Zv (.bool true) (fun _ fr => x_pneq Try.underlying81 rfl (fr.ev rfl) rfl rfl) ?_
 refine Zmm ?_
 refine Zn ?_
 refine Zf fo83_3 ?_
 refine Zd pl81 (hB.cell 3 rfl) ?_
 refine Zn ?_
 refine Zf fo39_0 ?_
 refine Zd (v := .int .u32 gx.num) pl32 (hGB.cell 0 rfl) ?_
 refine Zm ?_
 refine Zv (.bool false) (fun _ fr => x_eql rfl (fr.ev rfl) (fr.ev rfl) (decide_eq_false hg)) ?_
 refine Zpt ?_
 refine Zpf ?_
 refine Zan ?_
 refine Zcf ?_
 refine Zsm ?_
 refine Zv (.bool false) (fun _ fr => x_neq rfl (fr.ev rfl) rfl (decide_eq_false hs)) ?_
 refine Zm ?_
 refine Zss ?_
 refine Zss ?_
 refine Zss ?_
 refine Zpf ?_
 refine Zan ?_
 refine Zcf ?_
 refine Zsk ?_
 refine Zbn ?_
 refine Zsq ?_
 refine Zsm ?_
 refine Zn ?_
 refine Zf fo83_1 ?_
 refine Zd pl79 (hB.cell 1 rfl) ?_
 refine Zmm ?_
 replace hL := hL.new hN4
 refine Zk (args := #[.pointer (some ⟨lb, 0, none⟩), .int .u32 line, .int .i64 pick]) cf45 (victim_c line (by omega) pick hL) ?_
 rintro v w5 ⟨rfl, hN6⟩
 intro a fr
 rw [hv] at fr
 simp only [Option.getD_none, Option.isSome_none] at fr
 revert a
 refine Zm ?_
 refine Ztt ?_
 refine Zna (z := zv1) (cs := lnE.arr ln0) (by kernel_rfl) fun b7 w8 hN9 B10 hb11 => ?_
 replace hB := hB.new hN6
 have ne_b_b7 := nelt hB.lt hb11
 replace hL := hL.new hN6
 have ap_FpL_b7 := hL.apart hb11
 replace hGB := hGB.new hN6
 have ne_bg_b7 := nelt hGB.lt hb11
 replace hF := (hF.trNew hN4).trNew hN6
 have g_b7 := hF.sz hb11
 refine ZsS sz39 (lnE.all _) B10 (lnE.size _) (lnE.size _) fun w12 hO13 hBq => ?_
 clear hBq
 refine Zan ?_
 refine Zsm ?_
 refine Znf ?_
 refine Zkn ?_
 refine Zsm ?_
 refine Zmm ?_
 refine Zv (.agg (#[.int .u32 line, .bool wr])) (fun a fr => x_build (cells := #[.int .u32 line, .bool wr]) rfl (by simp only [List.map_toArray, List.map_cons, List.map_nil, show a.eval (.tmp 77) = .int .u32 line from fr.ev rfl, show a.eval (.tmp 78) = .bool wr from fr.ev rfl]; kernel_rfl)) ?_
 refine Znb (cs := #[.int .u32 line, .bool wr]) fun b14 w15 hN16 B17 hb18 => ?_
 replace hB := (hB.new hN9).only hO13 ne_b_b7
 have ne_b_b14 := nelt hB.lt hb18
 replace hL := (hL.new hN9).only hO13 (ne1P ap_FpL_b7)
 have ap_FpL_b14 := hL.apart hb18
 replace hGB := (hGB.new hN9).only hO13 ne_bg_b7
 have ne_bg_b14 := nelt hGB.lt hb18
 replace hF := (hF.trNew hN9).loc hO13 (.inr g_b7)
 have g_b14 := hF.sz hb18
 refine Zn ?_
 refine Zf fo83_2 ?_
 replace hB := hB.new hN16
 refine Zs1 (cs' := #[.int .i64 id, .pointer (some ⟨lb, 0, none⟩), .pointer (some ⟨b14, 0, none⟩), .pointer (some ⟨bg, 0, none⟩)]) sz80 hB (show 2 < 4 by decide) rfl fun w19 hO20 hB => ?_
 refine Znn ?_
 refine Zsr ?_
 refine Zaq ?_
 refine Zsm ?_
 refine Znn ?_
 refine Zcd (fun hc21 => ?_) (fun hc21 => ?_)
 ·subst hc21
  refine Zrg ?_
  refine Zan ?_
  refine Zsm ?_
  refine Zmm ?_
  refine Zm ?_
  refine Zk (args := #[.pointer (some ⟨b, 0, none⟩), .int .i64 2, .int .u32 line]) cf47 (msg_c hB 2 line (by omega)) ?_
  rintro v w22 ⟨rfl, hN23⟩
  intro a fr
  refine fx_build1 (E := msgE) (p := (mkM 2 id 4 line)) elMsg (by decide) fr rfl rfl (by decide) rfl (fr.ev rfl) ?_
  clear fr a
  intro A24 w25 hN26 O27 hA28
  intro a fr
  refine fx_append (E := msgE) (l := []) (l' := [(mkM 2 id 4 line)]) elMsg fr rfl rfl (by decide) rfl (fr.ev rfl) (fr.ev rfl) (by first | rfl | (simp; done) | (simp; omega)) (by first | rfl | (simp; done) | (simp; omega)) Own.nil O27.view (by first | omega | (simp only [List.length_append, List.length_cons, List.length_nil, List.nil_append]; omega)) (by first | (unfold maxLen; done) | (unfold maxLen; first | omega | (simp only [List.length_append, List.length_cons, List.length_nil]; omega) | (simp; done) | (simp; omega))) ?_
  clear fr a
  intro A29 cap30 w31 O32 hO33 mv34
  replace hF := (((hF.trNew hN16).loc hO20 (.inl ((hP.foot b).2 (.inl rfl)))).trNew hN23).trNew hN26
  have gN_A29 := fun g (hg : inA A29 g) => (mv34 g hg).elim (fun h => absurd h (apart_none g)) (fun h => Nat.le_trans hF.size h)
  replace hO33 := only_none hO33
  refine Za ?_
  refine Zar ?_
  refine Zre rfl [_, _] ⟨rfl, rfl, trivial⟩ ?_
  have gi_b14 : Fp b14 ∨ w.heap.size ≤ b14 := .inr g_b14
  replace hL := ((((hL.new hN16).only hO20 (ne1P ap_FpL_b)).new hN23).new hN26).new hO33
  replace hGB := ((((hGB.new hN16).only hO20 ne_bg_b).new hN23).new hN26).new hO33
  replace B17 := (((B17.only hO20 ne_b_b14.symm).new hN23).new hN26).new hO33
  replace hB := ((hB.new hN23).new hN26).new hO33
  replace hF := hF.trNew hO33
  exact ⟨_, rfl, A29, cap30, rfl, O32, gN_A29, (fun k => k = b ∨ FpL k ∨ (fun k => k = b14) k ∨ (fun k => k = bg) k), ⟨lb, FpL, _, _, (fun k => k = b14), (fun k => k = bg), hB, hL, ⟨b14, rfl, B17, fun _ => Iff.rfl, hln⟩, ⟨bg, rfl, hGB, fun _ => Iff.rfl⟩, ⟨ap_FpL_b, (fun e => (show ¬ b = b14 from ne_b_b14) e), (fun e => (show ¬ b = bg from ne_bg_b.symm) e), (fun k hk e => ap_FpL_b14 (e ▸ hk)), (fun k hk e => ap_FpL_bg (e ▸ hk)), (fun k e e2 => (show ¬ b14 = bg from ne_bg_b14.symm) (e.symm.trans e2)), fun _ => Iff.rfl⟩⟩, hF, (fun g hg => hg.elim (fun e => by rw [e]; exact .inl ((hP.foot b).2 (.inl rfl))) fun h => h.elim (gA_FpL g) fun h => h.elim (fun e => by rw [e]; exact gi_b14) (fun e => by rw [e]; exact gi_bg))⟩
 ·subst hc21
  refine Zkn ?_
  refine Zsm ?_
  refine Zmm ?_
  refine Zm ?_
  refine Zk (args := #[.pointer (some ⟨b, 0, none⟩), .int .i64 1, .int .u32 line]) cf47 (msg_c hB 1 line (by omega)) ?_
  rintro v w35 ⟨rfl, hN36⟩
  intro a fr
  refine fx_build1 (E := msgE) (p := (mkM 1 id 4 line)) elMsg (by decide) fr rfl rfl (by decide) rfl (fr.ev rfl) ?_
  clear fr a
  intro A37 w38 hN39 O40 hA41
  intro a fr
  refine fx_append (E := msgE) (l := []) (l' := [(mkM 1 id 4 line)]) elMsg fr rfl rfl (by decide) rfl (fr.ev rfl) (fr.ev rfl) (by first | rfl | (simp; done) | (simp; omega)) (by first | rfl | (simp; done) | (simp; omega)) Own.nil O40.view (by first | omega | (simp only [List.length_append, List.length_cons, List.length_nil, List.nil_append]; omega)) (by first | (unfold maxLen; done) | (unfold maxLen; first | omega | (simp only [List.length_append, List.length_cons, List.length_nil]; omega) | (simp; done) | (simp; omega))) ?_
  clear fr a
  intro A42 cap43 w44 O45 hO46 mv47
  replace hF := (((hF.trNew hN16).loc hO20 (.inl ((hP.foot b).2 (.inl rfl)))).trNew hN36).trNew hN39
  have gN_A42 := fun g (hg : inA A42 g) => (mv47 g hg).elim (fun h => absurd h (apart_none g)) (fun h => Nat.le_trans hF.size h)
  replace hO46 := only_none hO46
  refine Za ?_
  refine Zar ?_
  refine Zre rfl [_, _] ⟨rfl, rfl, trivial⟩ ?_
  have gi_b14 : Fp b14 ∨ w.heap.size ≤ b14 := .inr g_b14
  replace hL := ((((hL.new hN16).only hO20 (ne1P ap_FpL_b)).new hN36).new hN39).new hO46
  replace hGB := ((((hGB.new hN16).only hO20 ne_bg_b).new hN36).new hN39).new hO46
  replace B17 := (((B17.only hO20 ne_b_b14.symm).new hN36).new hN39).new hO46
  replace hB := ((hB.new hN36).new hN39).new hO46
  replace hF := hF.trNew hO46
  exact ⟨_, rfl, A42, cap43, rfl, O45, gN_A42, (fun k => k = b ∨ FpL k ∨ (fun k => k = b14) k ∨ (fun k => k = bg) k), ⟨lb, FpL, _, _, (fun k => k = b14), (fun k => k = bg), hB, hL, ⟨b14, rfl, B17, fun _ => Iff.rfl, hln⟩, ⟨bg, rfl, hGB, fun _ => Iff.rfl⟩, ⟨ap_FpL_b, (fun e => (show ¬ b = b14 from ne_b_b14) e), (fun e => (show ¬ b = bg from ne_bg_b.symm) e), (fun k hk e => ap_FpL_b14 (e ▸ hk)), (fun k hk e => ap_FpL_bg (e ▸ hk)), (fun k e e2 => (show ¬ b14 = bg from ne_bg_b14.symm) (e.symm.trans e2)), fun _ => Iff.rfl⟩⟩, hF, (fun g hg => hg.elim (fun e => by rw [e]; exact .inl ((hP.foot b).2 (.inl rfl))) fun h => h.elim (gA_FpL g) fun h => h.elim (fun e => by rw [e]; exact gi_b14) (fun e => by rw [e]; exact gi_bg))⟩
theorem ask_sx0s {w : World} {Fp : Nat → Prop} {b : Nat} {id : Int} {n : Nat} {ways : Int} {L : List Ln} {gx : Ln} (H : CacheAt w Fp b ⟨id, n, ways, L, none, (some gx)⟩) (line : Int) (hln : 0 ≤ line ∧ line < 4294967296) (pick : Int) (hg : ¬ gx.num = line) (wr : Bool) (hs : ¬ stateOf L line ≠ 0) (vx : Ln) (hv : vicL n ways L line pick = some vx) (hx : vx.state = 1) : Calls Try.prog 13 #[.pointer (some ⟨b, 0, none⟩), .int .u32 line, .bool wr, .int .i64 pick] w (Ret fun v w' => ∃ A' cap', v = .tuple #[.slice A' ([askM id line wr hln]).length cap', .int .i64 0] ∧ Own msgE w' A' cap' ([askM id line wr hln]) ∧ (∀ g, inA A' g → w.heap.size ≤ g) ∧ ∃ Fp', CacheAt w' Fp' b ⟨id, n, ways, dropL L vx.num, (some (line, wr)), (some gx)⟩ ∧ Only Fp w w' ∧ ∀ g, Fp' g → Fp g ∨ w.heap.size ≤ g) := by
 obtain ⟨lb, FpL, pa, pg, FpA, FpG, hB, hL, hA, hG, hP⟩ := H
 dsimp only at hB hL hA hG
 have ap_FpL_b := hP.lb
 have ap_FpG_b := hP.gb
 have ap2_FpL_FpG := hP.lg
 obtain ⟨hn1, hn2, hw1, hw2⟩ := hL.bd
 have gA_FpL : ∀ g, FpL g → Fp g ∨ w.heap.size ≤ g := fun g hg => .inl ((hP.foot g).2 (.inr (.inl hg)))
 have gA_FpG : ∀ g, FpG g → Fp g ∨ w.heap.size ≤ g := fun g hg => .inl ((hP.foot g).2 (.inr (.inr (.inr hg))))
 have hF := Only.refl (Fp) w
 refine Zen 91 Try.func13 ?_
 refine Zsr ?_
 refine Za ?_
 refine Zaq ?_
 refine Zsm ?_
 refine Zk cf43 (cnone_c hB) ?_
 rintro v w9 ⟨rfl, hw9⟩
 obtain rfl := hw9.symm
 refine Znf ?_
 refine Zkn ?_
 refine Zsm ?_
 refine Zm ?_
 refine Zk (args := #[.pointer (some ⟨b, 0, none⟩), .int .u32 line]) cf34 (state_c line (by omega) hB hL ap_FpL_b) ?_
 rintro v w3 ⟨rfl, hN4⟩
 refine Zaq ?_
 refine Zbl ?_
 refine Zsq ?_
 replace hA := hA.new hN4
 obtain ⟨rfl, hA0⟩ := hA
 replace hG := hG.new hN4
 obtain ⟨bg, rfl, hGB, hGF⟩ := hG
 have ne_bg_b : NE bg b := fun e => ap_FpG_b (e ▸ (hGF bg).2 rfl)
 have ap_FpL_bg : ¬ FpL bg := fun h => ap2_FpL_FpG bg h ((hGF bg).2 rfl)
 have gi_bg := gA_FpG bg ((hGF bg).2 rfl)
 refine Zgm ?_
 refine Zn ?_
 refine Zf fo83_2 ?_
 replace hB := hB.new hN4
 refine Zd pl80 (hB.cell 2 rfl) ?_
 refine Zv (.bool false) (fun _ fr => x_pneq Try.underlying80 rfl (fr.ev rfl) rfl rfl) ?_
 refine Zmm ?_
 refine Zn ?_
 refine Zf fo83_3 ?_
 refine Zd pl81 (hB.cell 3 rfl) ?_
 refine Zv (.bool true) (fun _ fr => x_pneq Try.underlying81 rfl (fr.ev rfl) rfl rfl) ?_
 refine Zmm ?_
 refine Zn ?_
 refine Zf fo83_3 ?_
 refine Zd pl81 (hB.cell 3 rfl) ?_
 refine Zn ?_
 refine Zf fo39_0 ?_
 refine Zd (v := .int .u32 gx.num) pl32 (hGB.cell 0 rfl) ?_
 refine Zm ?_
 refine Zv (.bool false) (fun _ fr => x_eql rfl (fr.ev rfl) (fr.ev rfl) (decide_eq_false hg)) ?_
 refine Zpt ?_
 refine Zpf ?_
 refine Zan ?_
 refine Zcf ?_
 refine Zsm ?_
 refine Zv (.bool false) (fun _ fr => x_neq rfl (fr.ev rfl) rfl (decide_eq_false hs)) ?_
 refine Zm ?_
 refine Zss ?_
 refine Zss ?_
 refine Zss ?_
 refine Zpf ?_
 refine Zan ?_
 refine Zcf ?_
 refine Zsk ?_
 refine Zbn ?_
 refine Zsq ?_
 refine Zsm ?_
 refine Zn ?_
 refine Zf fo83_1 ?_
 refine Zd pl79 (hB.cell 1 rfl) ?_
 refine Zmm ?_
 replace hL := hL.new hN4
 refine Zk (args := #[.pointer (some ⟨lb, 0, none⟩), .int .u32 line, .int .i64 pick]) cf45 (victim_c line (by omega) pick hL) ?_
 rintro v w5 ⟨rfl, hN6⟩
 intro a fr
 rw [hv] at fr
 simp only [Option.getD_some, Option.isSome_some] at fr
 revert a
 refine Zm ?_
 refine Ztt ?_
 refine Zna (z := zv1) (cs := lnE.arr ln0) (by kernel_rfl) fun b7 w8 hN9 B10 hb11 => ?_
 replace hB := hB.new hN6
 have ne_b_b7 := nelt hB.lt hb11
 replace hL := hL.new hN6
 have ap_FpL_b7 := hL.apart hb11
 replace hGB := hGB.new hN6
 have ne_bg_b7 := nelt hGB.lt hb11
 replace hF := (hF.trNew hN4).trNew hN6
 have g_b7 := hF.sz hb11
 refine ZsS sz39 (lnE.all _) B10 (lnE.size _) (lnE.size _) fun w12 hO13 B10 => ?_
 refine Zan ?_
 refine Zsm ?_
 refine Znt ?_
 refine Zsm ?_
 refine ZE lnE ag39 (B10.rangeE lnE) ?_
 replace hB := (hB.new hN9).only hO13 ne_b_b7
 replace hL := (hL.new hN9).only hO13 (ne1P ap_FpL_b7)
 refine Zk cf46 (out_s hB hL ap_FpL_b vx hx) ?_
 rintro v w18 ⟨rfl, hB14, Fp15, H16, mv17, hN19⟩
 have ap_Fp15_b : ¬ Fp15 b := moved_apartP mv17 ap_FpL_b hB.lt
 replace hGB := (hGB.new hN9).only hO13 ne_bg_b7
 have ap_Fp15_bg : ¬ Fp15 bg := moved_apartP mv17 ap_FpL_bg hGB.lt
 replace hF := (hF.trNew hN9).loc hO13 (.inr g_b7)
 have gA_Fp15 := gA_movedP hF mv17 gA_FpL
 clear hL
 replace hB := hB14
 clear hB14
 refine Zm ?_
 refine Ztt ?_
 refine Za ?_
 refine Zaq ?_
 refine Zsm ?_
 refine Zv (.bool false) (fun _ fr => x_not rfl (fr.ev rfl) rfl) ?_
 refine Znf ?_
 refine Zkn ?_
 refine Zgm ?_
 refine Zan ?_
 refine Zsm ?_
 refine Zmm ?_
 refine Zv (.agg (#[.int .u32 line, .bool wr])) (fun a fr => x_build (cells := #[.int .u32 line, .bool wr]) rfl (by simp only [List.map_toArray, List.map_cons, List.map_nil, show a.eval (.tmp 77) = .int .u32 line from fr.ev rfl, show a.eval (.tmp 78) = .bool wr from fr.ev rfl]; kernel_rfl)) ?_
 refine Znb (cs := #[.int .u32 line, .bool wr]) fun b20 w21 hN22 B23 hb24 => ?_
 replace hGB := hGB.only hN19 (fun h => h.elim ne_bg_b ap_FpL_bg)
 have ne_bg_b20 := nelt hGB.lt hb24
 have ne_b_b20 := nelt hB.lt hb24
 have ap_Fp15_b20 := H16.apart hb24
 replace hF := hF.locS hN19 (fun i => (fun h => h.elim (fun e => by rw [e]; exact (.inl ((hP.foot b).2 (.inl rfl)))) (fun h => gA_FpL i h)))
 have g_b20 := hF.sz hb24
 refine Zn ?_
 refine Zf fo83_2 ?_
 replace hB := hB.new hN22
 refine Zs1 (cs' := #[.int .i64 id, .pointer (some ⟨lb, 0, none⟩), .pointer (some ⟨b20, 0, none⟩), .pointer (some ⟨bg, 0, none⟩)]) sz80 hB (show 2 < 4 by decide) rfl fun w25 hO26 hB => ?_
 refine Znn ?_
 refine Zsr ?_
 refine Zaq ?_
 refine Zsm ?_
 refine Znn ?_
 refine Zcd (fun hc27 => ?_) (fun hc27 => ?_)
 ·subst hc27
  refine Zrg ?_
  refine Zan ?_
  refine Zsm ?_
  refine Zmm ?_
  refine Zm ?_
  refine Zk (args := #[.pointer (some ⟨b, 0, none⟩), .int .i64 2, .int .u32 line]) cf47 (msg_c hB 2 line (by omega)) ?_
  rintro v w28 ⟨rfl, hN29⟩
  intro a fr
  refine fx_build1 (E := msgE) (p := (mkM 2 id 4 line)) elMsg (by decide) fr rfl rfl (by decide) rfl (fr.ev rfl) ?_
  clear fr a
  intro A30 w31 hN32 O33 hA34
  intro a fr
  refine fx_append (E := msgE) (l := []) (l' := [(mkM 2 id 4 line)]) elMsg fr rfl rfl (by decide) rfl (fr.ev rfl) (fr.ev rfl) (by first | rfl | (simp; done) | (simp; omega)) (by first | rfl | (simp; done) | (simp; omega)) Own.nil O33.view (by first | omega | (simp only [List.length_append, List.length_cons, List.length_nil, List.nil_append]; omega)) (by first | (unfold maxLen; done) | (unfold maxLen; first | omega | (simp only [List.length_append, List.length_cons, List.length_nil]; omega) | (simp; done) | (simp; omega))) ?_
  clear fr a
  intro A35 cap36 w37 O38 hO39 mv40
  replace hF := (((hF.trNew hN22).loc hO26 (.inl ((hP.foot b).2 (.inl rfl)))).trNew hN29).trNew hN32
  have gN_A35 := fun g (hg : inA A35 g) => (mv40 g hg).elim (fun h => absurd h (apart_none g)) (fun h => Nat.le_trans hF.size h)
  replace hO39 := only_none hO39
  refine Za ?_
  refine Zar ?_
  refine Zre rfl [_, _] ⟨rfl, rfl, trivial⟩ ?_
  have gi_b20 : Fp b20 ∨ w.heap.size ≤ b20 := .inr g_b20
  replace hGB := ((((hGB.new hN22).only hO26 ne_bg_b).new hN29).new hN32).new hO39
  replace H16 := ((((H16.new hN22).only hO26 (ne1P ap_Fp15_b)).new hN29).new hN32).new hO39
  replace B23 := (((B23.only hO26 ne_b_b20.symm).new hN29).new hN32).new hO39
  replace hB := ((hB.new hN29).new hN32).new hO39
  replace hF := hF.trNew hO39
  exact ⟨_, rfl, A35, cap36, rfl, O38, gN_A35, (fun k => k = b ∨ Fp15 k ∨ (fun k => k = b20) k ∨ (fun k => k = bg) k), ⟨lb, Fp15, _, _, (fun k => k = b20), (fun k => k = bg), hB, H16, ⟨b20, rfl, B23, fun _ => Iff.rfl, hln⟩, ⟨bg, rfl, hGB, fun _ => Iff.rfl⟩, ⟨ap_Fp15_b, (fun e => (show ¬ b = b20 from ne_b_b20) e), (fun e => (show ¬ b = bg from ne_bg_b.symm) e), (fun k hk e => ap_Fp15_b20 (e ▸ hk)), (fun k hk e => ap_Fp15_bg (e ▸ hk)), (fun k e e2 => (show ¬ b20 = bg from ne_bg_b20.symm) (e.symm.trans e2)), fun _ => Iff.rfl⟩⟩, hF, (fun g hg => hg.elim (fun e => by rw [e]; exact .inl ((hP.foot b).2 (.inl rfl))) fun h => h.elim (gA_Fp15 g) fun h => h.elim (fun e => by rw [e]; exact gi_b20) (fun e => by rw [e]; exact gi_bg))⟩
 ·subst hc27
  refine Zkn ?_
  refine Zsm ?_
  refine Zmm ?_
  refine Zm ?_
  refine Zk (args := #[.pointer (some ⟨b, 0, none⟩), .int .i64 1, .int .u32 line]) cf47 (msg_c hB 1 line (by omega)) ?_
  rintro v w41 ⟨rfl, hN42⟩
  intro a fr
  refine fx_build1 (E := msgE) (p := (mkM 1 id 4 line)) elMsg (by decide) fr rfl rfl (by decide) rfl (fr.ev rfl) ?_
  clear fr a
  intro A43 w44 hN45 O46 hA47
  intro a fr
  refine fx_append (E := msgE) (l := []) (l' := [(mkM 1 id 4 line)]) elMsg fr rfl rfl (by decide) rfl (fr.ev rfl) (fr.ev rfl) (by first | rfl | (simp; done) | (simp; omega)) (by first | rfl | (simp; done) | (simp; omega)) Own.nil O46.view (by first | omega | (simp only [List.length_append, List.length_cons, List.length_nil, List.nil_append]; omega)) (by first | (unfold maxLen; done) | (unfold maxLen; first | omega | (simp only [List.length_append, List.length_cons, List.length_nil]; omega) | (simp; done) | (simp; omega))) ?_
  clear fr a
  intro A48 cap49 w50 O51 hO52 mv53
  replace hF := (((hF.trNew hN22).loc hO26 (.inl ((hP.foot b).2 (.inl rfl)))).trNew hN42).trNew hN45
  have gN_A48 := fun g (hg : inA A48 g) => (mv53 g hg).elim (fun h => absurd h (apart_none g)) (fun h => Nat.le_trans hF.size h)
  replace hO52 := only_none hO52
  refine Za ?_
  refine Zar ?_
  refine Zre rfl [_, _] ⟨rfl, rfl, trivial⟩ ?_
  have gi_b20 : Fp b20 ∨ w.heap.size ≤ b20 := .inr g_b20
  replace hGB := ((((hGB.new hN22).only hO26 ne_bg_b).new hN42).new hN45).new hO52
  replace H16 := ((((H16.new hN22).only hO26 (ne1P ap_Fp15_b)).new hN42).new hN45).new hO52
  replace B23 := (((B23.only hO26 ne_b_b20.symm).new hN42).new hN45).new hO52
  replace hB := ((hB.new hN42).new hN45).new hO52
  replace hF := hF.trNew hO52
  exact ⟨_, rfl, A48, cap49, rfl, O51, gN_A48, (fun k => k = b ∨ Fp15 k ∨ (fun k => k = b20) k ∨ (fun k => k = bg) k), ⟨lb, Fp15, _, _, (fun k => k = b20), (fun k => k = bg), hB, H16, ⟨b20, rfl, B23, fun _ => Iff.rfl, hln⟩, ⟨bg, rfl, hGB, fun _ => Iff.rfl⟩, ⟨ap_Fp15_b, (fun e => (show ¬ b = b20 from ne_b_b20) e), (fun e => (show ¬ b = bg from ne_bg_b.symm) e), (fun k hk e => ap_Fp15_b20 (e ▸ hk)), (fun k hk e => ap_Fp15_bg (e ▸ hk)), (fun k e e2 => (show ¬ b20 = bg from ne_bg_b20.symm) (e.symm.trans e2)), fun _ => Iff.rfl⟩⟩, hF, (fun g hg => hg.elim (fun e => by rw [e]; exact .inl ((hP.foot b).2 (.inl rfl))) fun h => h.elim (gA_Fp15 g) fun h => h.elim (fun e => by rw [e]; exact gi_b20) (fun e => by rw [e]; exact gi_bg))⟩
theorem ask_bx0s {w : World} {Fp : Nat → Prop} {b : Nat} {id : Int} {n : Nat} {ways : Int} {L : List Ln} {gx : Ln} (H : CacheAt w Fp b ⟨id, n, ways, L, none, (some gx)⟩) (line : Int) (hln : 0 ≤ line ∧ line < 4294967296) (pick : Int) (hg : ¬ gx.num = line) (wr : Bool) (hs : ¬ stateOf L line ≠ 0) (vx : Ln) (hv : vicL n ways L line pick = some vx) (hx : ¬ vx.state = 1) : Calls Try.prog 13 #[.pointer (some ⟨b, 0, none⟩), .int .u32 line, .bool wr, .int .i64 pick] w (Ret fun v w' => v = .tuple #[.slice none 0 0, .int .i64 230] ∧ New w w') := by
 obtain ⟨lb, FpL, pa, pg, FpA, FpG, hB, hL, hA, hG, hP⟩ := H
 dsimp only at hB hL hA hG
 have ap_FpL_b := hP.lb
 obtain ⟨hn1, hn2, hw1, hw2⟩ := hL.bd
 have gA_FpG := fun g (hg : FpG g) => (Or.inl trivial : True ∨ w.heap.size ≤ g)
 have hF := Only.refl (fun _ => False) w
 refine Zen 91 Try.func13 ?_
 refine Zsr ?_
 refine Za ?_
 refine Zaq ?_
 refine Zsm ?_
 refine Zk cf43 (cnone_c hB) ?_
 rintro v w9 ⟨rfl, hw9⟩
 obtain rfl := hw9.symm
 refine Znf ?_
 refine Zkn ?_
 refine Zsm ?_
 refine Zm ?_
 refine Zk (args := #[.pointer (some ⟨b, 0, none⟩), .int .u32 line]) cf34 (state_c line (by omega) hB hL ap_FpL_b) ?_
 rintro v w3 ⟨rfl, hN4⟩
 refine Zaq ?_
 refine Zbl ?_
 refine Zsq ?_
 replace hA := hA.new hN4
 obtain ⟨rfl, hA0⟩ := hA
 replace hG := hG.new hN4
 obtain ⟨bg, rfl, hGB, hGF⟩ := hG
 have gi_bg := gA_FpG bg ((hGF bg).2 rfl)
 refine Zgm ?_
 refine Zn ?_
 refine Zf fo83_2 ?_
 replace hB := hB.new hN4
 refine Zd pl80 (hB.cell 2 rfl) ?_
 refine Zv (.bool false) (fun _ fr => x_pneq Try.underlying80 rfl (fr.ev rfl) rfl rfl) ?_
 refine Zmm ?_
 refine Zn ?_
 refine Zf fo83_3 ?_
 refine Zd pl81 (hB.cell 3 rfl) ?_
 refine Zv (.bool true) (fun _ fr => x_pneq Try.underlying81 rfl (fr.ev rfl) rfl rfl) ?_
 refine Zmm ?_
 refine Zn ?_
 refine Zf fo83_3 ?_
 refine Zd pl81 (hB.cell 3 rfl) ?_
 refine Zn ?_
 refine Zf fo39_0 ?_
 refine Zd (v := .int .u32 gx.num) pl32 (hGB.cell 0 rfl) ?_
 refine Zm ?_
 refine Zv (.bool false) (fun _ fr => x_eql rfl (fr.ev rfl) (fr.ev rfl) (decide_eq_false hg)) ?_
 refine Zpt ?_
 refine Zpf ?_
 refine Zan ?_
 refine Zcf ?_
 refine Zsm ?_
 refine Zv (.bool false) (fun _ fr => x_neq rfl (fr.ev rfl) rfl (decide_eq_false hs)) ?_
 refine Zm ?_
 refine Zss ?_
 refine Zss ?_
 refine Zss ?_
 refine Zpf ?_
 refine Zan ?_
 refine Zcf ?_
 refine Zsk ?_
 refine Zbn ?_
 refine Zsq ?_
 refine Zsm ?_
 refine Zn ?_
 refine Zf fo83_1 ?_
 refine Zd pl79 (hB.cell 1 rfl) ?_
 refine Zmm ?_
 replace hL := hL.new hN4
 refine Zk (args := #[.pointer (some ⟨lb, 0, none⟩), .int .u32 line, .int .i64 pick]) cf45 (victim_c line (by omega) pick hL) ?_
 rintro v w5 ⟨rfl, hN6⟩
 intro a fr
 rw [hv] at fr
 simp only [Option.getD_some, Option.isSome_some] at fr
 revert a
 refine Zm ?_
 refine Ztt ?_
 refine Zna (z := zv1) (cs := lnE.arr ln0) (by kernel_rfl) fun b7 w8 hN9 B10 hb11 => ?_
 replace hB := hB.new hN6
 have ne_b_b7 := nelt hB.lt hb11
 replace hL := hL.new hN6
 have ap_FpL_b7 := hL.apart hb11
 replace hF := (hF.trNew hN4).trNew hN6
 have g_b7 := hF.sz hb11
 refine ZsS sz39 (lnE.all _) B10 (lnE.size _) (lnE.size _) fun w12 hO13 B10 => ?_
 refine Zan ?_
 refine Zsm ?_
 refine Znt ?_
 refine Zsm ?_
 refine ZE lnE ag39 (B10.rangeE lnE) ?_
 replace hB := (hB.new hN9).only hO13 ne_b_b7
 replace hL := (hL.new hN9).only hO13 (ne1P ap_FpL_b7)
 refine Zk cf46 (out_b hB hL ap_FpL_b vx hx) ?_
 rintro v w14 ⟨rfl, hN15⟩
 refine Zm ?_
 refine Ztt ?_
 refine Za ?_
 refine Zaq ?_
 refine Zsm ?_
 refine Zv (.bool true) (fun _ fr => x_not rfl (fr.ev rfl) rfl) ?_
 refine Znt ?_
 refine Zsr ?_
 refine Za ?_
 refine Zar ?_
 refine Zr1 ?_
 refine Zr1 ?_
 refine Zre rfl [_, _] ⟨rfl, rfl, trivial⟩ ?_
 replace hF := ((hF.trNew hN9).loc hO13 (.inr g_b7)).trNew hN15
 exact ⟨_, rfl, rfl, hF⟩
end Go.Proofs.Ytflnlmibkbojcaa
namespace Go.Proofs.Ytflnlmibkbojcaa
open Go.RowKit
theorem ask_trn {w : World} {Fp : Nat → Prop} {b : Nat} {id : Int} {n : Nat} {ways : Int} {L : List Ln} (H : CacheAt w Fp b ⟨id, n, ways, L, none, none⟩) (line : Int) (hln : 0 ≤ line ∧ line < 4294967296) (pick : Int) (hs : stateOf L line ≠ 0)  : Calls Try.prog 13 #[.pointer (some ⟨b, 0, none⟩), .int .u32 line, .bool false, .int .i64 pick] w (Ret fun v w' => v = .tuple #[.slice none 0 0, .int .i64 231] ∧ New w w') := by
 obtain ⟨lb, FpL, pa, pg, FpA, FpG, hB, hL, hA, hG, hP⟩ := H
 dsimp only at hB hL hA hG
 have ap_FpL_b := hP.lb
 obtain ⟨hn1, hn2, hw1, hw2⟩ := hL.bd
 have hF := Only.refl (fun _ => False) w
 refine Zen 91 Try.func13 ?_
 refine Zsr ?_
 refine Za ?_
 refine Zaq ?_
 refine Zsm ?_
 refine Zk cf43 (cnone_c hB) ?_
 rintro v w9 ⟨rfl, hw9⟩
 obtain rfl := hw9.symm
 refine Znf ?_
 refine Zkn ?_
 refine Zsm ?_
 refine Zm ?_
 refine Zk (args := #[.pointer (some ⟨b, 0, none⟩), .int .u32 line]) cf34 (state_c line (by omega) hB hL ap_FpL_b) ?_
 rintro v w3 ⟨rfl, hN4⟩
 refine Zaq ?_
 refine Zbl ?_
 refine Zsq ?_
 replace hA := hA.new hN4
 obtain ⟨rfl, hA0⟩ := hA
 replace hG := hG.new hN4
 obtain ⟨rfl, hG0⟩ := hG
 refine Zgm ?_
 refine Zn ?_
 refine Zf fo83_2 ?_
 replace hB := hB.new hN4
 refine Zd pl80 (hB.cell 2 rfl) ?_
 refine Zv (.bool false) (fun _ fr => x_pneq Try.underlying80 rfl (fr.ev rfl) rfl rfl) ?_
 refine Zmm ?_
 refine Zn ?_
 refine Zf fo83_3 ?_
 refine Zd pl81 (hB.cell 3 rfl) ?_
 refine Zv (.bool false) (fun _ fr => x_pneq Try.underlying81 rfl (fr.ev rfl) rfl rfl) ?_
 refine Zm ?_
 refine Zss ?_
 refine Zss ?_
 refine Zss ?_
 refine Zss ?_
 refine Zs ?_
 refine Zpf ?_
 refine Zpf ?_
 refine Zan ?_
 refine Zcf ?_
 refine Zsm ?_
 refine Zv (.bool true) (fun _ fr => x_neq rfl (fr.ev rfl) rfl (decide_eq_true hs)) ?_
 refine Zmm ?_
 refine Zv (.bool true) (fun _ fr => x_not rfl (fr.ev rfl) rfl) ?_
 refine Zm ?_
 refine Zss ?_
 refine Zpt ?_
 refine Zpt ?_
 refine Zan ?_
 refine Zct ?_
 refine Zsr ?_
 refine Za ?_
 refine Zar ?_
 refine Zr21 ?_
 refine Zre rfl [_, _] ⟨rfl, rfl, trivial⟩ ?_
 replace hF := hF.trNew hN4
 exact ⟨_, rfl, rfl, hF⟩
theorem ask_trs {w : World} {Fp : Nat → Prop} {b : Nat} {id : Int} {n : Nat} {ways : Int} {L : List Ln} {gx : Ln} (H : CacheAt w Fp b ⟨id, n, ways, L, none, (some gx)⟩) (line : Int) (hln : 0 ≤ line ∧ line < 4294967296) (pick : Int) (hg : ¬ gx.num = line) (hs : stateOf L line ≠ 0)  : Calls Try.prog 13 #[.pointer (some ⟨b, 0, none⟩), .int .u32 line, .bool false, .int .i64 pick] w (Ret fun v w' => v = .tuple #[.slice none 0 0, .int .i64 231] ∧ New w w') := by
 obtain ⟨lb, FpL, pa, pg, FpA, FpG, hB, hL, hA, hG, hP⟩ := H
 dsimp only at hB hL hA hG
 have ap_FpL_b := hP.lb
 obtain ⟨hn1, hn2, hw1, hw2⟩ := hL.bd
 have gA_FpG := fun g (hg : FpG g) => (Or.inl trivial : True ∨ w.heap.size ≤ g)
 have hF := Only.refl (fun _ => False) w
 refine Zen 91 Try.func13 ?_
 refine Zsr ?_
 refine Za ?_
 refine Zaq ?_
 refine Zsm ?_
 refine Zk cf43 (cnone_c hB) ?_
 rintro v w9 ⟨rfl, hw9⟩
 obtain rfl := hw9.symm
 refine Znf ?_
 refine Zkn ?_
 refine Zsm ?_
 refine Zm ?_
 refine Zk (args := #[.pointer (some ⟨b, 0, none⟩), .int .u32 line]) cf34 (state_c line (by omega) hB hL ap_FpL_b) ?_
 rintro v w3 ⟨rfl, hN4⟩
 refine Zaq ?_
 refine Zbl ?_
 refine Zsq ?_
 replace hA := hA.new hN4
 obtain ⟨rfl, hA0⟩ := hA
 replace hG := hG.new hN4
 obtain ⟨bg, rfl, hGB, hGF⟩ := hG
 have gi_bg := gA_FpG bg ((hGF bg).2 rfl)
 refine Zgm ?_
 refine Zn ?_
 refine Zf fo83_2 ?_
 replace hB := hB.new hN4
 refine Zd pl80 (hB.cell 2 rfl) ?_
 refine Zv (.bool false) (fun _ fr => x_pneq Try.underlying80 rfl (fr.ev rfl) rfl rfl) ?_
 refine Zmm ?_
 refine Zn ?_
 refine Zf fo83_3 ?_
 refine Zd pl81 (hB.cell 3 rfl) ?_
 refine Zv (.bool true) (fun _ fr => x_pneq Try.underlying81 rfl (fr.ev rfl) rfl rfl) ?_
 refine Zmm ?_
 refine Zn ?_
 refine Zf fo83_3 ?_
 refine Zd pl81 (hB.cell 3 rfl) ?_
 refine Zn ?_
 refine Zf fo39_0 ?_
 refine Zd (v := .int .u32 gx.num) pl32 (hGB.cell 0 rfl) ?_
 refine Zm ?_
 refine Zv (.bool false) (fun _ fr => x_eql rfl (fr.ev rfl) (fr.ev rfl) (decide_eq_false hg)) ?_
 refine Zpt ?_
 refine Zpf ?_
 refine Zan ?_
 refine Zcf ?_
 refine Zsm ?_
 refine Zv (.bool true) (fun _ fr => x_neq rfl (fr.ev rfl) rfl (decide_eq_true hs)) ?_
 refine Zmm ?_
 refine Zv (.bool true) (fun _ fr => x_not rfl (fr.ev rfl) rfl) ?_
 refine Zm ?_
 refine Zss ?_
 refine Zpt ?_
 refine Zpt ?_
 refine Zan ?_
 refine Zct ?_
 refine Zsr ?_
 refine Za ?_
 refine Zar ?_
 refine Zr21 ?_
 refine Zre rfl [_, _] ⟨rfl, rfl, trivial⟩ ?_
 replace hF := hF.trNew hN4
 exact ⟨_, rfl, rfl, hF⟩
theorem ask_twn {w : World} {Fp : Nat → Prop} {b : Nat} {id : Int} {n : Nat} {ways : Int} {L : List Ln} (H : CacheAt w Fp b ⟨id, n, ways, L, none, none⟩) (line : Int) (hln : 0 ≤ line ∧ line < 4294967296) (pick : Int) (hs : stateOf L line ≠ 0) (hw : writesB (stateOf L line) = true)  : Calls Try.prog 13 #[.pointer (some ⟨b, 0, none⟩), .int .u32 line, .bool true, .int .i64 pick] w (Ret fun v w' => v = .tuple #[.slice none 0 0, .int .i64 231] ∧ New w w') := by
 obtain ⟨lb, FpL, pa, pg, FpA, FpG, hB, hL, hA, hG, hP⟩ := H
 dsimp only at hB hL hA hG
 have ap_FpL_b := hP.lb
 obtain ⟨hn1, hn2, hw1, hw2⟩ := hL.bd
 have hF := Only.refl (fun _ => False) w
 refine Zen 91 Try.func13 ?_
 refine Zsr ?_
 refine Za ?_
 refine Zaq ?_
 refine Zsm ?_
 refine Zk cf43 (cnone_c hB) ?_
 rintro v w9 ⟨rfl, hw9⟩
 obtain rfl := hw9.symm
 refine Znf ?_
 refine Zkn ?_
 refine Zsm ?_
 refine Zm ?_
 refine Zk (args := #[.pointer (some ⟨b, 0, none⟩), .int .u32 line]) cf34 (state_c line (by omega) hB hL ap_FpL_b) ?_
 rintro v w3 ⟨rfl, hN4⟩
 refine Zaq ?_
 refine Zbl ?_
 refine Zsq ?_
 replace hA := hA.new hN4
 obtain ⟨rfl, hA0⟩ := hA
 replace hG := hG.new hN4
 obtain ⟨rfl, hG0⟩ := hG
 refine Zgm ?_
 refine Zn ?_
 refine Zf fo83_2 ?_
 replace hB := hB.new hN4
 refine Zd pl80 (hB.cell 2 rfl) ?_
 refine Zv (.bool false) (fun _ fr => x_pneq Try.underlying80 rfl (fr.ev rfl) rfl rfl) ?_
 refine Zmm ?_
 refine Zn ?_
 refine Zf fo83_3 ?_
 refine Zd pl81 (hB.cell 3 rfl) ?_
 refine Zv (.bool false) (fun _ fr => x_pneq Try.underlying81 rfl (fr.ev rfl) rfl rfl) ?_
 refine Zm ?_
 refine Zss ?_
 refine Zss ?_
 refine Zss ?_
 refine Zss ?_
 refine Zs ?_
 refine Zpf ?_
 refine Zpf ?_
 refine Zan ?_
 refine Zcf ?_
 refine Zsm ?_
 refine Zv (.bool true) (fun _ fr => x_neq rfl (fr.ev rfl) rfl (decide_eq_true hs)) ?_
 refine Zmm ?_
 refine Zv (.bool false) (fun _ fr => x_not rfl (fr.ev rfl) rfl) ?_
 refine Zmm ?_
 refine Zk cf44 (writes_c (stateOf L line) _) ?_
 rintro v _ ⟨rfl, hw9⟩
 obtain rfl := hw9.symm
 intro a fr
 rw [hw] at fr
 revert a
 refine Zpf ?_
 refine Zpt ?_
 refine Zan ?_
 refine Zct ?_
 refine Zsr ?_
 refine Za ?_
 refine Zar ?_
 refine Zr21 ?_
 refine Zre rfl [_, _] ⟨rfl, rfl, trivial⟩ ?_
 replace hF := hF.trNew hN4
 exact ⟨_, rfl, rfl, hF⟩
theorem ask_nw1n {w : World} {Fp : Nat → Prop} {b : Nat} {id : Int} {n : Nat} {ways : Int} {L : List Ln} (H : CacheAt w Fp b ⟨id, n, ways, L, none, none⟩) (line : Int) (hln : 0 ≤ line ∧ line < 4294967296) (pick : Int) (hs : stateOf L line ≠ 0) (hw : writesB (stateOf L line) = false) (hv : vicL n ways L line pick = none) : Calls Try.prog 13 #[.pointer (some ⟨b, 0, none⟩), .int .u32 line, .bool true, .int .i64 pick] w (Ret fun v w' => ∃ A' cap', v = .tuple #[.slice A' ([askM id line true hln]).length cap', .int .i64 0] ∧ Own msgE w' A' cap' ([askM id line true hln]) ∧ (∀ g, inA A' g → w.heap.size ≤ g) ∧ ∃ Fp', CacheAt w' Fp' b ⟨id, n, ways, L, (some (line, true)), none⟩ ∧ Only Fp w w' ∧ ∀ g, Fp' g → Fp g ∨ w.heap.size ≤ g) := by
 obtain ⟨lb, FpL, pa, pg, FpA, FpG, hB, hL, hA, hG, hP⟩ := H
 dsimp only at hB hL hA hG
 have ap_FpL_b := hP.lb
 obtain ⟨hn1, hn2, hw1, hw2⟩ := hL.bd
 have gA_FpL : ∀ g, FpL g → Fp g ∨ w.heap.size ≤ g := fun g hg => .inl ((hP.foot g).2 (.inr (.inl hg)))
 have hF := Only.refl (Fp) w
 refine Zen 91 Try.func13 ?_
 refine Zsr ?_
 refine Za ?_
 refine Zaq ?_
 refine Zsm ?_
 refine Zk cf43 (cnone_c hB) ?_
 rintro v w9 ⟨rfl, hw9⟩
 obtain rfl := hw9.symm
 refine Znf ?_
 refine Zkn ?_
 refine Zsm ?_
 refine Zm ?_
 refine Zk (args := #[.pointer (some ⟨b, 0, none⟩), .int .u32 line]) cf34 (state_c line (by omega) hB hL ap_FpL_b) ?_
 rintro v w3 ⟨rfl, hN4⟩
 refine Zaq ?_
 refine Zbl ?_
 refine Zsq ?_
 replace hA := hA.new hN4
 obtain ⟨rfl, hA0⟩ := hA
 replace hG := hG.new hN4
 obtain ⟨rfl, hG0⟩ := hG
 refine Zgm ?_
 refine Zn ?_
 refine Zf fo83_2 ?_
 replace hB := hB.new hN4
 refine Zd pl80 (hB.cell 2 rfl) ?_
 refine Zv (.bool false) (fun _ fr => x_pneq Try.underlying80 rfl (fr.ev rfl) rfl rfl) ?_
 refine Zmm ?_
 refine Zn ?_
 refine Zf fo83_3 ?_
 refine Zd pl81 (hB.cell 3 rfl) ?_
 refine Zv (.bool false) (fun _ fr => x_pneq Try.underlying81 rfl (fr.ev rfl) rfl rfl) ?_
 refine Zm ?_
 refine Zss ?_
 refine Zss ?_
 refine Zss ?_
 refine Zss ?_
 refine Zs ?_
 refine Zpf ?_
 refine Zpf ?_
 refine Zan ?_
 refine Zcf ?_
 refine Zsm ?_
 refine Zv (.bool true) (fun _ fr => x_neq rfl (fr.ev rfl) rfl (decide_eq_true hs)) ?_
 refine Zmm ?_
 refine Zv (.bool false) (fun _ fr => x_not rfl (fr.ev rfl) rfl) ?_
 refine Zmm ?_
 refine Zk cf44 (writes_c (stateOf L line) _) ?_
 rintro v _ ⟨rfl, hw9⟩
 obtain rfl := hw9.symm
 intro a fr
 rw [hw] at fr
 revert a
 refine Zpf ?_
 refine Zpt ?_
 refine Zan ?_
 refine Zcf ?_
 refine Zsk ?_
 refine Zbn ?_
 refine Zsq ?_
 refine Zsm ?_
 refine Zn ?_
 refine Zf fo83_1 ?_
 refine Zd pl79 (hB.cell 1 rfl) ?_
 refine Zmm ?_
 replace hL := hL.new hN4
 refine Zk (args := #[.pointer (some ⟨lb, 0, none⟩), .int .u32 line, .int .i64 pick]) cf45 (victim_c line (by omega) pick hL) ?_
 rintro v w7 ⟨rfl, hN8⟩
 intro a fr
 rw [hv] at fr
 simp only [Option.getD_none, Option.isSome_none] at fr
 revert a
 refine Zm ?_
 refine Ztt ?_
 refine Zna (z := zv1) (cs := lnE.arr ln0) (by kernel_rfl) fun b9 w10 hN11 B12 hb13 => ?_
 replace hB := hB.new hN8
 have ne_b_b9 := nelt hB.lt hb13
 replace hL := hL.new hN8
 have ap_FpL_b9 := hL.apart hb13
 replace hF := (hF.trNew hN4).trNew hN8
 have g_b9 := hF.sz hb13
 refine ZsS sz39 (lnE.all _) B12 (lnE.size _) (lnE.size _) fun w14 hO15 hBq => ?_
 clear hBq
 refine Zan ?_
 refine Zsm ?_
 refine Znf ?_
 refine Zkn ?_
 refine Zsm ?_
 refine Zmm ?_
 refine Zv (.agg (#[.int .u32 line, .bool true])) (fun a fr => x_build (cells := #[.int .u32 line, .bool true]) rfl (by simp only [List.map_toArray, List.map_cons, List.map_nil, show a.eval (.tmp 77) = .int .u32 line from fr.ev rfl, show a.eval (.tmp 78) = .bool true from fr.ev rfl]; kernel_rfl)) ?_
 refine Znb (cs := #[.int .u32 line, .bool true]) fun b16 w17 hN18 B19 hb20 => ?_
 replace hB := (hB.new hN11).only hO15 ne_b_b9
 have ne_b_b16 := nelt hB.lt hb20
 replace hL := (hL.new hN11).only hO15 (ne1P ap_FpL_b9)
 have ap_FpL_b16 := hL.apart hb20
 replace hF := (hF.trNew hN11).loc hO15 (.inr g_b9)
 have g_b16 := hF.sz hb20
 refine Zn ?_
 refine Zf fo83_2 ?_
 replace hB := hB.new hN18
 refine Zs1 (cs' := #[.int .i64 id, .pointer (some ⟨lb, 0, none⟩), .pointer (some ⟨b16, 0, none⟩), .pointer none]) sz80 hB (show 2 < 4 by decide) rfl fun w21 hO22 hB => ?_
 refine Znn ?_
 refine Zsr ?_
 refine Zaq ?_
 refine Zsm ?_
 refine Znt ?_
 refine Zrg ?_
 refine Zan ?_
 refine Zsm ?_
 refine Zmm ?_
 refine Zm ?_
 refine Zk (args := #[.pointer (some ⟨b, 0, none⟩), .int .i64 2, .int .u32 line]) cf47 (msg_c hB 2 line (by omega)) ?_
 rintro v w23 ⟨rfl, hN24⟩
 intro a fr
 refine fx_build1 (E := msgE) (p := (mkM 2 id 4 line)) elMsg (by decide) fr rfl rfl (by decide) rfl (fr.ev rfl) ?_
 clear fr a
 intro A25 w26 hN27 O28 hA29
 intro a fr
 refine fx_append (E := msgE) (l := []) (l' := [(mkM 2 id 4 line)]) elMsg fr rfl rfl (by decide) rfl (fr.ev rfl) (fr.ev rfl) (by first | rfl | (simp; done) | (simp; omega)) (by first | rfl | (simp; done) | (simp; omega)) Own.nil O28.view (by first | omega | (simp only [List.length_append, List.length_cons, List.length_nil, List.nil_append]; omega)) (by first | (unfold maxLen; done) | (unfold maxLen; first | omega | (simp only [List.length_append, List.length_cons, List.length_nil]; omega) | (simp; done) | (simp; omega))) ?_
 clear fr a
 intro A30 cap31 w32 O33 hO34 mv35
 replace hF := (((hF.trNew hN18).loc hO22 (.inl ((hP.foot b).2 (.inl rfl)))).trNew hN24).trNew hN27
 have gN_A30 := fun g (hg : inA A30 g) => (mv35 g hg).elim (fun h => absurd h (apart_none g)) (fun h => Nat.le_trans hF.size h)
 replace hO34 := only_none hO34
 refine Za ?_
 refine Zar ?_
 refine Zre rfl [_, _] ⟨rfl, rfl, trivial⟩ ?_
 have gi_b16 : Fp b16 ∨ w.heap.size ≤ b16 := .inr g_b16
 replace hL := ((((hL.new hN18).only hO22 (ne1P ap_FpL_b)).new hN24).new hN27).new hO34
 replace B19 := (((B19.only hO22 ne_b_b16.symm).new hN24).new hN27).new hO34
 replace hB := ((hB.new hN24).new hN27).new hO34
 replace hF := hF.trNew hO34
 exact ⟨_, rfl, A30, cap31, rfl, O33, gN_A30, (fun k => k = b ∨ FpL k ∨ (fun k => k = b16) k ∨ (fun _ => False) k), ⟨lb, FpL, _, _, (fun k => k = b16), (fun _ => False), hB, hL, ⟨b16, rfl, B19, fun _ => Iff.rfl, hln⟩, ⟨rfl, fun _ h => h⟩, ⟨ap_FpL_b, (fun e => (show ¬ b = b16 from ne_b_b16) e), (fun h => h), (fun k hk e => ap_FpL_b16 (e ▸ hk)), (fun _ _ h => h), (fun _ _ h => h), fun _ => Iff.rfl⟩⟩, hF, (fun g hg => hg.elim (fun e => by rw [e]; exact .inl ((hP.foot b).2 (.inl rfl))) fun h => h.elim (gA_FpL g) fun h => h.elim (fun e => by rw [e]; exact gi_b16) (fun h => h.elim))⟩
theorem ask_sw1n {w : World} {Fp : Nat → Prop} {b : Nat} {id : Int} {n : Nat} {ways : Int} {L : List Ln} (H : CacheAt w Fp b ⟨id, n, ways, L, none, none⟩) (line : Int) (hln : 0 ≤ line ∧ line < 4294967296) (pick : Int) (hs : stateOf L line ≠ 0) (hw : writesB (stateOf L line) = false) (vx : Ln) (hv : vicL n ways L line pick = some vx) (hx : vx.state = 1) : Calls Try.prog 13 #[.pointer (some ⟨b, 0, none⟩), .int .u32 line, .bool true, .int .i64 pick] w (Ret fun v w' => ∃ A' cap', v = .tuple #[.slice A' ([askM id line true hln]).length cap', .int .i64 0] ∧ Own msgE w' A' cap' ([askM id line true hln]) ∧ (∀ g, inA A' g → w.heap.size ≤ g) ∧ ∃ Fp', CacheAt w' Fp' b ⟨id, n, ways, dropL L vx.num, (some (line, true)), none⟩ ∧ Only Fp w w' ∧ ∀ g, Fp' g → Fp g ∨ w.heap.size ≤ g) := by
 obtain ⟨lb, FpL, pa, pg, FpA, FpG, hB, hL, hA, hG, hP⟩ := H
 dsimp only at hB hL hA hG
 have ap_FpL_b := hP.lb
 obtain ⟨hn1, hn2, hw1, hw2⟩ := hL.bd
 have gA_FpL : ∀ g, FpL g → Fp g ∨ w.heap.size ≤ g := fun g hg => .inl ((hP.foot g).2 (.inr (.inl hg)))
 have hF := Only.refl (Fp) w
 refine Zen 91 Try.func13 ?_
 refine Zsr ?_
 refine Za ?_
 refine Zaq ?_
 refine Zsm ?_
 refine Zk cf43 (cnone_c hB) ?_
 rintro v w9 ⟨rfl, hw9⟩
 obtain rfl := hw9.symm
 refine Znf ?_
 refine Zkn ?_
 refine Zsm ?_
 refine Zm ?_
 refine Zk (args := #[.pointer (some ⟨b, 0, none⟩), .int .u32 line]) cf34 (state_c line (by omega) hB hL ap_FpL_b) ?_
 rintro v w3 ⟨rfl, hN4⟩
 refine Zaq ?_
 refine Zbl ?_
 refine Zsq ?_
 replace hA := hA.new hN4
 obtain ⟨rfl, hA0⟩ := hA
 replace hG := hG.new hN4
 obtain ⟨rfl, hG0⟩ := hG
 refine Zgm ?_
 refine Zn ?_
 refine Zf fo83_2 ?_
 replace hB := hB.new hN4
 refine Zd pl80 (hB.cell 2 rfl) ?_
 refine Zv (.bool false) (fun _ fr => x_pneq Try.underlying80 rfl (fr.ev rfl) rfl rfl) ?_
 refine Zmm ?_
 refine Zn ?_
 refine Zf fo83_3 ?_
 refine Zd pl81 (hB.cell 3 rfl) ?_
 refine Zv (.bool false) (fun _ fr => x_pneq Try.underlying81 rfl (fr.ev rfl) rfl rfl) ?_
 refine Zm ?_
 refine Zss ?_
 refine Zss ?_
 refine Zss ?_
 refine Zss ?_
 refine Zs ?_
 refine Zpf ?_
 refine Zpf ?_
 refine Zan ?_
 refine Zcf ?_
 refine Zsm ?_
 refine Zv (.bool true) (fun _ fr => x_neq rfl (fr.ev rfl) rfl (decide_eq_true hs)) ?_
 refine Zmm ?_
 refine Zv (.bool false) (fun _ fr => x_not rfl (fr.ev rfl) rfl) ?_
 refine Zmm ?_
 refine Zk cf44 (writes_c (stateOf L line) _) ?_
 rintro v _ ⟨rfl, hw9⟩
 obtain rfl := hw9.symm
 intro a fr
 rw [hw] at fr
 revert a
 refine Zpf ?_
 refine Zpt ?_
 refine Zan ?_
 refine Zcf ?_
 refine Zsk ?_
 refine Zbn ?_
 refine Zsq ?_
 refine Zsm ?_
 refine Zn ?_
 refine Zf fo83_1 ?_
 refine Zd pl79 (hB.cell 1 rfl) ?_
 refine Zmm ?_
 replace hL := hL.new hN4
 refine Zk (args := #[.pointer (some ⟨lb, 0, none⟩), .int .u32 line, .int .i64 pick]) cf45 (victim_c line (by omega) pick hL) ?_
 rintro v w7 ⟨rfl, hN8⟩
 intro a fr
 rw [hv] at fr
 simp only [Option.getD_some, Option.isSome_some] at fr
 revert a
 refine Zm ?_
 refine Ztt ?_
 refine Zna (z := zv1) (cs := lnE.arr ln0) (by kernel_rfl) fun b9 w10 hN11 B12 hb13 => ?_
 replace hB := hB.new hN8
 have ne_b_b9 := nelt hB.lt hb13
 replace hL := hL.new hN8
 have ap_FpL_b9 := hL.apart hb13
 replace hF := (hF.trNew hN4).trNew hN8
 have g_b9 := hF.sz hb13
 refine ZsS sz39 (lnE.all _) B12 (lnE.size _) (lnE.size _) fun w14 hO15 B12 => ?_
 refine Zan ?_
 refine Zsm ?_
 refine Znt ?_
 refine Zsm ?_
 refine ZE lnE ag39 (B12.rangeE lnE) ?_
 replace hB := (hB.new hN11).only hO15 ne_b_b9
 replace hL := (hL.new hN11).only hO15 (ne1P ap_FpL_b9)
 refine Zk cf46 (out_s hB hL ap_FpL_b vx hx) ?_
 rintro v w20 ⟨rfl, hB16, Fp17, H18, mv19, hN21⟩
 have ap_Fp17_b : ¬ Fp17 b := moved_apartP mv19 ap_FpL_b hB.lt
 replace hF := (hF.trNew hN11).loc hO15 (.inr g_b9)
 have gA_Fp17 := gA_movedP hF mv19 gA_FpL
 clear hL
 replace hB := hB16
 clear hB16
 refine Zm ?_
 refine Ztt ?_
 refine Za ?_
 refine Zaq ?_
 refine Zsm ?_
 refine Zv (.bool false) (fun _ fr => x_not rfl (fr.ev rfl) rfl) ?_
 refine Znf ?_
 refine Zkn ?_
 refine Zgm ?_
 refine Zan ?_
 refine Zsm ?_
 refine Zmm ?_
 refine Zv (.agg (#[.int .u32 line, .bool true])) (fun a fr => x_build (cells := #[.int .u32 line, .bool true]) rfl (by simp only [List.map_toArray, List.map_cons, List.map_nil, show a.eval (.tmp 77) = .int .u32 line from fr.ev rfl, show a.eval (.tmp 78) = .bool true from fr.ev rfl]; kernel_rfl)) ?_
 refine Znb (cs := #[.int .u32 line, .bool true]) fun b22 w23 hN24 B25 hb26 => ?_
 have ne_b_b22 := nelt hB.lt hb26
 have ap_Fp17_b22 := H18.apart hb26
 replace hF := hF.locS hN21 (fun i => (fun h => h.elim (fun e => by rw [e]; exact (.inl ((hP.foot b).2 (.inl rfl)))) (fun h => gA_FpL i h)))
 have g_b22 := hF.sz hb26
 refine Zn ?_
 refine Zf fo83_2 ?_
 replace hB := hB.new hN24
 refine Zs1 (cs' := #[.int .i64 id, .pointer (some ⟨lb, 0, none⟩), .pointer (some ⟨b22, 0, none⟩), .pointer none]) sz80 hB (show 2 < 4 by decide) rfl fun w27 hO28 hB => ?_
 refine Znn ?_
 refine Zsr ?_
 refine Zaq ?_
 refine Zsm ?_
 refine Znt ?_
 refine Zrg ?_
 refine Zan ?_
 refine Zsm ?_
 refine Zmm ?_
 refine Zm ?_
 refine Zk (args := #[.pointer (some ⟨b, 0, none⟩), .int .i64 2, .int .u32 line]) cf47 (msg_c hB 2 line (by omega)) ?_
 rintro v w29 ⟨rfl, hN30⟩
 intro a fr
 refine fx_build1 (E := msgE) (p := (mkM 2 id 4 line)) elMsg (by decide) fr rfl rfl (by decide) rfl (fr.ev rfl) ?_
 clear fr a
 intro A31 w32 hN33 O34 hA35
 intro a fr
 refine fx_append (E := msgE) (l := []) (l' := [(mkM 2 id 4 line)]) elMsg fr rfl rfl (by decide) rfl (fr.ev rfl) (fr.ev rfl) (by first | rfl | (simp; done) | (simp; omega)) (by first | rfl | (simp; done) | (simp; omega)) Own.nil O34.view (by first | omega | (simp only [List.length_append, List.length_cons, List.length_nil, List.nil_append]; omega)) (by first | (unfold maxLen; done) | (unfold maxLen; first | omega | (simp only [List.length_append, List.length_cons, List.length_nil]; omega) | (simp; done) | (simp; omega))) ?_
 clear fr a
 intro A36 cap37 w38 O39 hO40 mv41
 replace hF := (((hF.trNew hN24).loc hO28 (.inl ((hP.foot b).2 (.inl rfl)))).trNew hN30).trNew hN33
 have gN_A36 := fun g (hg : inA A36 g) => (mv41 g hg).elim (fun h => absurd h (apart_none g)) (fun h => Nat.le_trans hF.size h)
 replace hO40 := only_none hO40
 refine Za ?_
 refine Zar ?_
 refine Zre rfl [_, _] ⟨rfl, rfl, trivial⟩ ?_
 have gi_b22 : Fp b22 ∨ w.heap.size ≤ b22 := .inr g_b22
 replace H18 := ((((H18.new hN24).only hO28 (ne1P ap_Fp17_b)).new hN30).new hN33).new hO40
 replace B25 := (((B25.only hO28 ne_b_b22.symm).new hN30).new hN33).new hO40
 replace hB := ((hB.new hN30).new hN33).new hO40
 replace hF := hF.trNew hO40
 exact ⟨_, rfl, A36, cap37, rfl, O39, gN_A36, (fun k => k = b ∨ Fp17 k ∨ (fun k => k = b22) k ∨ (fun _ => False) k), ⟨lb, Fp17, _, _, (fun k => k = b22), (fun _ => False), hB, H18, ⟨b22, rfl, B25, fun _ => Iff.rfl, hln⟩, ⟨rfl, fun _ h => h⟩, ⟨ap_Fp17_b, (fun e => (show ¬ b = b22 from ne_b_b22) e), (fun h => h), (fun k hk e => ap_Fp17_b22 (e ▸ hk)), (fun _ _ h => h), (fun _ _ h => h), fun _ => Iff.rfl⟩⟩, hF, (fun g hg => hg.elim (fun e => by rw [e]; exact .inl ((hP.foot b).2 (.inl rfl))) fun h => h.elim (gA_Fp17 g) fun h => h.elim (fun e => by rw [e]; exact gi_b22) (fun h => h.elim))⟩
theorem ask_pw1n {w : World} {Fp : Nat → Prop} {b : Nat} {id : Int} {n : Nat} {ways : Int} {L : List Ln} (H : CacheAt w Fp b ⟨id, n, ways, L, none, none⟩) (line : Int) (hln : 0 ≤ line ∧ line < 4294967296) (pick : Int) (hs : stateOf L line ≠ 0) (hw : writesB (stateOf L line) = false) (vx : Ln) (hv : vicL n ways L line pick = some vx) (hx : ¬ vx.state = 1) : Calls Try.prog 13 #[.pointer (some ⟨b, 0, none⟩), .int .u32 line, .bool true, .int .i64 pick] w (Ret fun v w' => ∃ A' cap', v = .tuple #[.slice A' ([putM id vx] ++ [askM id line true hln]).length cap', .int .i64 0] ∧ Own msgE w' A' cap' ([putM id vx] ++ [askM id line true hln]) ∧ (∀ g, inA A' g → w.heap.size ≤ g) ∧ ∃ Fp', CacheAt w' Fp' b ⟨id, n, ways, dropL L vx.num, (some (line, true)), (some vx)⟩ ∧ Only Fp w w' ∧ ∀ g, Fp' g → Fp g ∨ w.heap.size ≤ g) := by
 obtain ⟨lb, FpL, pa, pg, FpA, FpG, hB, hL, hA, hG, hP⟩ := H
 dsimp only at hB hL hA hG
 have ap_FpL_b := hP.lb
 obtain ⟨hn1, hn2, hw1, hw2⟩ := hL.bd
 have gA_FpL : ∀ g, FpL g → Fp g ∨ w.heap.size ≤ g := fun g hg => .inl ((hP.foot g).2 (.inr (.inl hg)))
 have hF := Only.refl (Fp) w
 refine Zen 91 Try.func13 ?_
 refine Zsr ?_
 refine Za ?_
 refine Zaq ?_
 refine Zsm ?_
 refine Zk cf43 (cnone_c hB) ?_
 rintro v w9 ⟨rfl, hw9⟩
 obtain rfl := hw9.symm
 refine Znf ?_
 refine Zkn ?_
 refine Zsm ?_
 refine Zm ?_
 refine Zk (args := #[.pointer (some ⟨b, 0, none⟩), .int .u32 line]) cf34 (state_c line (by omega) hB hL ap_FpL_b) ?_
 rintro v w3 ⟨rfl, hN4⟩
 refine Zaq ?_
 refine Zbl ?_
 refine Zsq ?_
 replace hA := hA.new hN4
 obtain ⟨rfl, hA0⟩ := hA
 replace hG := hG.new hN4
 obtain ⟨rfl, hG0⟩ := hG
 refine Zgm ?_
 refine Zn ?_
 refine Zf fo83_2 ?_
 replace hB := hB.new hN4
 refine Zd pl80 (hB.cell 2 rfl) ?_
 refine Zv (.bool false) (fun _ fr => x_pneq Try.underlying80 rfl (fr.ev rfl) rfl rfl) ?_
 refine Zmm ?_
 refine Zn ?_
 refine Zf fo83_3 ?_
 refine Zd pl81 (hB.cell 3 rfl) ?_
 refine Zv (.bool false) (fun _ fr => x_pneq Try.underlying81 rfl (fr.ev rfl) rfl rfl) ?_
 refine Zm ?_
 refine Zss ?_
 refine Zss ?_
 refine Zss ?_
 refine Zss ?_
 refine Zs ?_
 refine Zpf ?_
 refine Zpf ?_
 refine Zan ?_
 refine Zcf ?_
 refine Zsm ?_
 refine Zv (.bool true) (fun _ fr => x_neq rfl (fr.ev rfl) rfl (decide_eq_true hs)) ?_
 refine Zmm ?_
 refine Zv (.bool false) (fun _ fr => x_not rfl (fr.ev rfl) rfl) ?_
 refine Zmm ?_
 refine Zk cf44 (writes_c (stateOf L line) _) ?_
 rintro v _ ⟨rfl, hw9⟩
 obtain rfl := hw9.symm
 intro a fr
 rw [hw] at fr
 revert a
 refine Zpf ?_
 refine Zpt ?_
 refine Zan ?_
 refine Zcf ?_
 refine Zsk ?_
 refine Zbn ?_
 refine Zsq ?_
 refine Zsm ?_
 refine Zn ?_
 refine Zf fo83_1 ?_
 refine Zd pl79 (hB.cell 1 rfl) ?_
 refine Zmm ?_
 replace hL := hL.new hN4
 refine Zk (args := #[.pointer (some ⟨lb, 0, none⟩), .int .u32 line, .int .i64 pick]) cf45 (victim_c line (by omega) pick hL) ?_
 rintro v w7 ⟨rfl, hN8⟩
 intro a fr
 rw [hv] at fr
 simp only [Option.getD_some, Option.isSome_some] at fr
 revert a
 refine Zm ?_
 refine Ztt ?_
 refine Zna (z := zv1) (cs := lnE.arr ln0) (by kernel_rfl) fun b9 w10 hN11 B12 hb13 => ?_
 replace hB := hB.new hN8
 have ne_b_b9 := nelt hB.lt hb13
 replace hL := hL.new hN8
 have ap_FpL_b9 := hL.apart hb13
 replace hF := (hF.trNew hN4).trNew hN8
 have g_b9 := hF.sz hb13
 refine ZsS sz39 (lnE.all _) B12 (lnE.size _) (lnE.size _) fun w14 hO15 B12 => ?_
 refine Zan ?_
 refine Zsm ?_
 refine Znt ?_
 refine Zsm ?_
 refine ZE lnE ag39 (B12.rangeE lnE) ?_
 replace hB := (hB.new hN11).only hO15 ne_b_b9
 replace hL := (hL.new hN11).only hO15 (ne1P ap_FpL_b9)
 refine Zk cf46 (out_n hB hL ap_FpL_b vx hx) ?_
 rintro v w27 ⟨A20, cap21, rfl, O22, hA23, b24, B25, hB16, hb26, Fp17, H18, mv19, ap_Fp17_b24, ap_A20_b24, ap2_Fp17_A20, hN28⟩
 have ap_Fp17_b : ¬ Fp17 b := moved_apartP mv19 ap_FpL_b hB.lt
 replace hF := (hF.trNew hN11).loc hO15 (.inr g_b9)
 have gA_Fp17 := gA_movedP hF mv19 gA_FpL
 have ne_b_b24 := nelt hB.lt hb26
 have g_b24 := hF.sz hb26
 have ap_A20_b : Apart A20 b := new_apart hA23 hB.lt
 have gA_A20 := gA_new hF hA23
 have gN_A20 := fun g (hg : inA A20 g) => Nat.le_trans hF.size (hA23 g hg)
 clear hL
 replace hB := hB16
 clear hB16
 have gi_b24 : Fp b24 ∨ w.heap.size ≤ b24 := .inr g_b24
 refine Zm ?_
 refine Ztt ?_
 refine Za ?_
 refine Zaq ?_
 refine Zsm ?_
 refine Zv (.bool false) (fun _ fr => x_not rfl (fr.ev rfl) rfl) ?_
 refine Znf ?_
 refine Zkn ?_
 refine Zgm ?_
 refine Zan ?_
 refine Zsm ?_
 refine Zmm ?_
 refine Zv (.agg (#[.int .u32 line, .bool true])) (fun a fr => x_build (cells := #[.int .u32 line, .bool true]) rfl (by simp only [List.map_toArray, List.map_cons, List.map_nil, show a.eval (.tmp 77) = .int .u32 line from fr.ev rfl, show a.eval (.tmp 78) = .bool true from fr.ev rfl]; kernel_rfl)) ?_
 refine Znb (cs := #[.int .u32 line, .bool true]) fun b29 w30 hN31 B32 hb33 => ?_
 have ne_b_b29 := nelt hB.lt hb33
 have ap_A20_b29 := O22.apart hb33
 have ne_b24_b29 := nelt B25.lt hb33
 have ap_Fp17_b29 := H18.apart hb33
 replace hF := hF.locS hN28 (fun i => (fun h => h.elim (fun e => by rw [e]; exact (.inl ((hP.foot b).2 (.inl rfl)))) (fun h => gA_FpL i h)))
 have g_b29 := hF.sz hb33
 refine Zn ?_
 refine Zf fo83_2 ?_
 replace hB := hB.new hN31
 refine Zs1 (cs' := #[.int .i64 id, .pointer (some ⟨lb, 0, none⟩), .pointer (some ⟨b29, 0, none⟩), .pointer (some ⟨b24, 0, none⟩)]) sz80 hB (show 2 < 4 by decide) rfl fun w34 hO35 hB => ?_
 refine Znn ?_
 refine Zsr ?_
 refine Zaq ?_
 refine Zsm ?_
 refine Znt ?_
 refine Zrg ?_
 refine Zan ?_
 refine Zsm ?_
 refine Zmm ?_
 refine Zm ?_
 refine Zk (args := #[.pointer (some ⟨b, 0, none⟩), .int .i64 2, .int .u32 line]) cf47 (msg_c hB 2 line (by omega)) ?_
 rintro v w36 ⟨rfl, hN37⟩
 intro a fr
 refine fx_build1 (E := msgE) (p := (mkM 2 id 4 line)) elMsg (by decide) fr rfl rfl (by decide) rfl (fr.ev rfl) ?_
 clear fr a
 intro A38 w39 hN40 O41 hA42
 intro a fr
 replace O22 := (((O22.new hN31).only hO35 (Apart.ne1 ap_A20_b)).new hN37).new hN40
 refine fx_append (E := msgE) (l := [putM id vx]) (l' := [(mkM 2 id 4 line)]) elMsg fr rfl rfl (by decide) rfl (fr.ev rfl) (fr.ev rfl) (by first | rfl | (simp; done) | (simp; omega)) (by first | rfl | (simp; done) | (simp; omega)) O22 O41.view (by first | omega | (simp only [List.length_append, List.length_cons, List.length_nil, List.nil_append]; omega)) (by first | (unfold maxLen; done) | (unfold maxLen; first | omega | (simp only [List.length_append, List.length_cons, List.length_nil]; omega) | (simp; done) | (simp; omega))) ?_
 clear fr a
 intro A43 cap44 w45 O46 hO47 mv48
 replace hF := (((hF.trNew hN31).loc hO35 (.inl ((hP.foot b).2 (.inl rfl)))).trNew hN37).trNew hN40
 have gN_A43 := fun g (hg : inA A43 g) => (mv48 g hg).elim (gN_A20 g) (fun h => Nat.le_trans hF.size h)
 clear O22
 refine Za ?_
 refine Zar ?_
 refine Zre rfl [_, _] ⟨rfl, rfl, trivial⟩ ?_
 have gi_b29 : Fp b29 ∨ w.heap.size ≤ b29 := .inr g_b29
 replace B25 := ((((B25.new hN31).only hO35 ne_b_b24.symm).new hN37).new hN40).only hO47 ap_A20_b24
 replace H18 := ((((H18.new hN31).only hO35 (ne1P ap_Fp17_b)).new hN37).new hN40).only hO47 (fun g h1 h2 => ap2_Fp17_A20 g h1 h2)
 replace B32 := (((B32.only hO35 ne_b_b29.symm).new hN37).new hN40).only hO47 ap_A20_b29
 replace hB := ((hB.new hN37).new hN40).only hO47 ap_A20_b
 replace hF := hF.locA hO47 gA_A20
 exact ⟨_, rfl, A43, cap44, rfl, O46, gN_A43, (fun k => k = b ∨ Fp17 k ∨ (fun k => k = b29) k ∨ (fun k => k = b24) k), ⟨lb, Fp17, _, _, (fun k => k = b29), (fun k => k = b24), hB, H18, ⟨b29, rfl, B32, fun _ => Iff.rfl, hln⟩, ⟨b24, rfl, B25, fun _ => Iff.rfl⟩, ⟨ap_Fp17_b, (fun e => (show ¬ b = b29 from ne_b_b29) e), (fun e => (show ¬ b = b24 from ne_b_b24) e), (fun k hk e => ap_Fp17_b29 (e ▸ hk)), (fun k hk e => ap_Fp17_b24 (e ▸ hk)), (fun k e e2 => (show ¬ b29 = b24 from ne_b24_b29.symm) (e.symm.trans e2)), fun _ => Iff.rfl⟩⟩, hF, (fun g hg => hg.elim (fun e => by rw [e]; exact .inl ((hP.foot b).2 (.inl rfl))) fun h => h.elim (gA_Fp17 g) fun h => h.elim (fun e => by rw [e]; exact gi_b29) (fun e => by rw [e]; exact gi_b24))⟩
theorem ask_tws {w : World} {Fp : Nat → Prop} {b : Nat} {id : Int} {n : Nat} {ways : Int} {L : List Ln} {gx : Ln} (H : CacheAt w Fp b ⟨id, n, ways, L, none, (some gx)⟩) (line : Int) (hln : 0 ≤ line ∧ line < 4294967296) (pick : Int) (hg : ¬ gx.num = line) (hs : stateOf L line ≠ 0) (hw : writesB (stateOf L line) = true)  : Calls Try.prog 13 #[.pointer (some ⟨b, 0, none⟩), .int .u32 line, .bool true, .int .i64 pick] w (Ret fun v w' => v = .tuple #[.slice none 0 0, .int .i64 231] ∧ New w w') := by
 obtain ⟨lb, FpL, pa, pg, FpA, FpG, hB, hL, hA, hG, hP⟩ := H
 dsimp only at hB hL hA hG
 have ap_FpL_b := hP.lb
 obtain ⟨hn1, hn2, hw1, hw2⟩ := hL.bd
 have gA_FpG := fun g (hg : FpG g) => (Or.inl trivial : True ∨ w.heap.size ≤ g)
 have hF := Only.refl (fun _ => False) w
 refine Zen 91 Try.func13 ?_
 refine Zsr ?_
 refine Za ?_
 refine Zaq ?_
 refine Zsm ?_
 refine Zk cf43 (cnone_c hB) ?_
 rintro v w9 ⟨rfl, hw9⟩
 obtain rfl := hw9.symm
 refine Znf ?_
 refine Zkn ?_
 refine Zsm ?_
 refine Zm ?_
 refine Zk (args := #[.pointer (some ⟨b, 0, none⟩), .int .u32 line]) cf34 (state_c line (by omega) hB hL ap_FpL_b) ?_
 rintro v w3 ⟨rfl, hN4⟩
 refine Zaq ?_
 refine Zbl ?_
 refine Zsq ?_
 replace hA := hA.new hN4
 obtain ⟨rfl, hA0⟩ := hA
 replace hG := hG.new hN4
 obtain ⟨bg, rfl, hGB, hGF⟩ := hG
 have gi_bg := gA_FpG bg ((hGF bg).2 rfl)
 refine Zgm ?_
 refine Zn ?_
 refine Zf fo83_2 ?_
 replace hB := hB.new hN4
 refine Zd pl80 (hB.cell 2 rfl) ?_
 refine Zv (.bool false) (fun _ fr => x_pneq Try.underlying80 rfl (fr.ev rfl) rfl rfl) ?_
 refine Zmm ?_
 refine Zn ?_
 refine Zf fo83_3 ?_
 refine Zd pl81 (hB.cell 3 rfl) ?_
 refine Zv (.bool true) (fun _ fr => x_pneq Try.underlying81 rfl (fr.ev rfl) rfl rfl) ?_
 refine Zmm ?_
 refine Zn ?_
 refine Zf fo83_3 ?_
 refine Zd pl81 (hB.cell 3 rfl) ?_
 refine Zn ?_
 refine Zf fo39_0 ?_
 refine Zd (v := .int .u32 gx.num) pl32 (hGB.cell 0 rfl) ?_
 refine Zm ?_
 refine Zv (.bool false) (fun _ fr => x_eql rfl (fr.ev rfl) (fr.ev rfl) (decide_eq_false hg)) ?_
 refine Zpt ?_
 refine Zpf ?_
 refine Zan ?_
 refine Zcf ?_
 refine Zsm ?_
 refine Zv (.bool true) (fun _ fr => x_neq rfl (fr.ev rfl) rfl (decide_eq_true hs)) ?_
 refine Zmm ?_
 refine Zv (.bool false) (fun _ fr => x_not rfl (fr.ev rfl) rfl) ?_
 refine Zmm ?_
 refine Zk cf44 (writes_c (stateOf L line) _) ?_
 rintro v _ ⟨rfl, hw9⟩
 obtain rfl := hw9.symm
 intro a fr
 rw [hw] at fr
 revert a
 refine Zpf ?_
 refine Zpt ?_
 refine Zan ?_
 refine Zct ?_
 refine Zsr ?_
 refine Za ?_
 refine Zar ?_
 refine Zr21 ?_
 refine Zre rfl [_, _] ⟨rfl, rfl, trivial⟩ ?_
 replace hF := hF.trNew hN4
 exact ⟨_, rfl, rfl, hF⟩
theorem ask_nw1s {w : World} {Fp : Nat → Prop} {b : Nat} {id : Int} {n : Nat} {ways : Int} {L : List Ln} {gx : Ln} (H : CacheAt w Fp b ⟨id, n, ways, L, none, (some gx)⟩) (line : Int) (hln : 0 ≤ line ∧ line < 4294967296) (pick : Int) (hg : ¬ gx.num = line) (hs : stateOf L line ≠ 0) (hw : writesB (stateOf L line) = false) (hv : vicL n ways L line pick = none) : Calls Try.prog 13 #[.pointer (some ⟨b, 0, none⟩), .int .u32 line, .bool true, .int .i64 pick] w (Ret fun v w' => ∃ A' cap', v = .tuple #[.slice A' ([askM id line true hln]).length cap', .int .i64 0] ∧ Own msgE w' A' cap' ([askM id line true hln]) ∧ (∀ g, inA A' g → w.heap.size ≤ g) ∧ ∃ Fp', CacheAt w' Fp' b ⟨id, n, ways, L, (some (line, true)), (some gx)⟩ ∧ Only Fp w w' ∧ ∀ g, Fp' g → Fp g ∨ w.heap.size ≤ g) := by
 obtain ⟨lb, FpL, pa, pg, FpA, FpG, hB, hL, hA, hG, hP⟩ := H
 dsimp only at hB hL hA hG
 have ap_FpL_b := hP.lb
 have ap_FpG_b := hP.gb
 have ap2_FpL_FpG := hP.lg
 obtain ⟨hn1, hn2, hw1, hw2⟩ := hL.bd
 have gA_FpL : ∀ g, FpL g → Fp g ∨ w.heap.size ≤ g := fun g hg => .inl ((hP.foot g).2 (.inr (.inl hg)))
 have gA_FpG : ∀ g, FpG g → Fp g ∨ w.heap.size ≤ g := fun g hg => .inl ((hP.foot g).2 (.inr (.inr (.inr hg))))
 have hF := Only.refl (Fp) w
 refine Zen 91 Try.func13 ?_
 refine Zsr ?_
 refine Za ?_
 refine Zaq ?_
 refine Zsm ?_
 refine Zk cf43 (cnone_c hB) ?_
 rintro v w9 ⟨rfl, hw9⟩
 obtain rfl := hw9.symm
 refine Znf ?_
 refine Zkn ?_
 refine Zsm ?_
 refine Zm ?_
 refine Zk (args := #[.pointer (some ⟨b, 0, none⟩), .int .u32 line]) cf34 (state_c line (by omega) hB hL ap_FpL_b) ?_
 rintro v w3 ⟨rfl, hN4⟩
 refine Zaq ?_
 refine Zbl ?_
 refine Zsq ?_
 replace hA := hA.new hN4
 obtain ⟨rfl, hA0⟩ := hA
 replace hG := hG.new hN4
 obtain ⟨bg, rfl, hGB, hGF⟩ := hG
 have ne_bg_b : NE bg b := fun e => ap_FpG_b (e ▸ (hGF bg).2 rfl)
 have ap_FpL_bg : ¬ FpL bg := fun h => ap2_FpL_FpG bg h ((hGF bg).2 rfl)
 have gi_bg := gA_FpG bg ((hGF bg).2 rfl)
 refine Zgm ?_
 refine Zn ?_
 refine Zf fo83_2 ?_
 replace hB := hB.new hN4
 refine Zd pl80 (hB.cell 2 rfl) ?_
 refine Zv (.bool false) (fun _ fr => x_pneq Try.underlying80 rfl (fr.ev rfl) rfl rfl) ?_
 refine Zmm ?_
 refine Zn ?_
 refine Zf fo83_3 ?_
 refine Zd pl81 (hB.cell 3 rfl) ?_
 refine Zv (.bool true) (fun _ fr => x_pneq Try.underlying81 rfl (fr.ev rfl) rfl rfl) ?_
 refine Zmm ?_
 refine Zn ?_
 refine Zf fo83_3 ?_
 refine Zd pl81 (hB.cell 3 rfl) ?_
 refine Zn ?_
 refine Zf fo39_0 ?_
 refine Zd (v := .int .u32 gx.num) pl32 (hGB.cell 0 rfl) ?_
 refine Zm ?_
 refine Zv (.bool false) (fun _ fr => x_eql rfl (fr.ev rfl) (fr.ev rfl) (decide_eq_false hg)) ?_
 refine Zpt ?_
 refine Zpf ?_
 refine Zan ?_
 refine Zcf ?_
 refine Zsm ?_
 refine Zv (.bool true) (fun _ fr => x_neq rfl (fr.ev rfl) rfl (decide_eq_true hs)) ?_
 refine Zmm ?_
 refine Zv (.bool false) (fun _ fr => x_not rfl (fr.ev rfl) rfl) ?_
 refine Zmm ?_
 refine Zk cf44 (writes_c (stateOf L line) _) ?_
 rintro v _ ⟨rfl, hw9⟩
 obtain rfl := hw9.symm
 intro a fr
 rw [hw] at fr
 revert a
 refine Zpf ?_
 refine Zpt ?_
 refine Zan ?_
 refine Zcf ?_
 refine Zsk ?_
 refine Zbn ?_
 refine Zsq ?_
 refine Zsm ?_
 refine Zn ?_
 refine Zf fo83_1 ?_
 refine Zd pl79 (hB.cell 1 rfl) ?_
 refine Zmm ?_
 replace hL := hL.new hN4
 refine Zk (args := #[.pointer (some ⟨lb, 0, none⟩), .int .u32 line, .int .i64 pick]) cf45 (victim_c line (by omega) pick hL) ?_
 rintro v w7 ⟨rfl, hN8⟩
 intro a fr
 rw [hv] at fr
 simp only [Option.getD_none, Option.isSome_none] at fr
 revert a
 refine Zm ?_
 refine Ztt ?_
 refine Zna (z := zv1) (cs := lnE.arr ln0) (by kernel_rfl) fun b9 w10 hN11 B12 hb13 => ?_
 replace hB := hB.new hN8
 have ne_b_b9 := nelt hB.lt hb13
 replace hL := hL.new hN8
 have ap_FpL_b9 := hL.apart hb13
 replace hGB := hGB.new hN8
 have ne_bg_b9 := nelt hGB.lt hb13
 replace hF := (hF.trNew hN4).trNew hN8
 have g_b9 := hF.sz hb13
 refine ZsS sz39 (lnE.all _) B12 (lnE.size _) (lnE.size _) fun w14 hO15 hBq => ?_
 clear hBq
 refine Zan ?_
 refine Zsm ?_
 refine Znf ?_
 refine Zkn ?_
 refine Zsm ?_
 refine Zmm ?_
 refine Zv (.agg (#[.int .u32 line, .bool true])) (fun a fr => x_build (cells := #[.int .u32 line, .bool true]) rfl (by simp only [List.map_toArray, List.map_cons, List.map_nil, show a.eval (.tmp 77) = .int .u32 line from fr.ev rfl, show a.eval (.tmp 78) = .bool true from fr.ev rfl]; kernel_rfl)) ?_
 refine Znb (cs := #[.int .u32 line, .bool true]) fun b16 w17 hN18 B19 hb20 => ?_
 replace hB := (hB.new hN11).only hO15 ne_b_b9
 have ne_b_b16 := nelt hB.lt hb20
 replace hL := (hL.new hN11).only hO15 (ne1P ap_FpL_b9)
 have ap_FpL_b16 := hL.apart hb20
 replace hGB := (hGB.new hN11).only hO15 ne_bg_b9
 have ne_bg_b16 := nelt hGB.lt hb20
 replace hF := (hF.trNew hN11).loc hO15 (.inr g_b9)
 have g_b16 := hF.sz hb20
 refine Zn ?_
 refine Zf fo83_2 ?_
 replace hB := hB.new hN18
 refine Zs1 (cs' := #[.int .i64 id, .pointer (some ⟨lb, 0, none⟩), .pointer (some ⟨b16, 0, none⟩), .pointer (some ⟨bg, 0, none⟩)]) sz80 hB (show 2 < 4 by decide) rfl fun w21 hO22 hB => ?_
 refine Znn ?_
 refine Zsr ?_
 refine Zaq ?_
 refine Zsm ?_
 refine Znt ?_
 refine Zrg ?_
 refine Zan ?_
 refine Zsm ?_
 refine Zmm ?_
 refine Zm ?_
 refine Zk (args := #[.pointer (some ⟨b, 0, none⟩), .int .i64 2, .int .u32 line]) cf47 (msg_c hB 2 line (by omega)) ?_
 rintro v w23 ⟨rfl, hN24⟩
 intro a fr
 refine fx_build1 (E := msgE) (p := (mkM 2 id 4 line)) elMsg (by decide) fr rfl rfl (by decide) rfl (fr.ev rfl) ?_
 clear fr a
 intro A25 w26 hN27 O28 hA29
 intro a fr
 refine fx_append (E := msgE) (l := []) (l' := [(mkM 2 id 4 line)]) elMsg fr rfl rfl (by decide) rfl (fr.ev rfl) (fr.ev rfl) (by first | rfl | (simp; done) | (simp; omega)) (by first | rfl | (simp; done) | (simp; omega)) Own.nil O28.view (by first | omega | (simp only [List.length_append, List.length_cons, List.length_nil, List.nil_append]; omega)) (by first | (unfold maxLen; done) | (unfold maxLen; first | omega | (simp only [List.length_append, List.length_cons, List.length_nil]; omega) | (simp; done) | (simp; omega))) ?_
 clear fr a
 intro A30 cap31 w32 O33 hO34 mv35
 replace hF := (((hF.trNew hN18).loc hO22 (.inl ((hP.foot b).2 (.inl rfl)))).trNew hN24).trNew hN27
 have gN_A30 := fun g (hg : inA A30 g) => (mv35 g hg).elim (fun h => absurd h (apart_none g)) (fun h => Nat.le_trans hF.size h)
 replace hO34 := only_none hO34
 refine Za ?_
 refine Zar ?_
 refine Zre rfl [_, _] ⟨rfl, rfl, trivial⟩ ?_
 have gi_b16 : Fp b16 ∨ w.heap.size ≤ b16 := .inr g_b16
 replace hL := ((((hL.new hN18).only hO22 (ne1P ap_FpL_b)).new hN24).new hN27).new hO34
 replace hGB := ((((hGB.new hN18).only hO22 ne_bg_b).new hN24).new hN27).new hO34
 replace B19 := (((B19.only hO22 ne_b_b16.symm).new hN24).new hN27).new hO34
 replace hB := ((hB.new hN24).new hN27).new hO34
 replace hF := hF.trNew hO34
 exact ⟨_, rfl, A30, cap31, rfl, O33, gN_A30, (fun k => k = b ∨ FpL k ∨ (fun k => k = b16) k ∨ (fun k => k = bg) k), ⟨lb, FpL, _, _, (fun k => k = b16), (fun k => k = bg), hB, hL, ⟨b16, rfl, B19, fun _ => Iff.rfl, hln⟩, ⟨bg, rfl, hGB, fun _ => Iff.rfl⟩, ⟨ap_FpL_b, (fun e => (show ¬ b = b16 from ne_b_b16) e), (fun e => (show ¬ b = bg from ne_bg_b.symm) e), (fun k hk e => ap_FpL_b16 (e ▸ hk)), (fun k hk e => ap_FpL_bg (e ▸ hk)), (fun k e e2 => (show ¬ b16 = bg from ne_bg_b16.symm) (e.symm.trans e2)), fun _ => Iff.rfl⟩⟩, hF, (fun g hg => hg.elim (fun e => by rw [e]; exact .inl ((hP.foot b).2 (.inl rfl))) fun h => h.elim (gA_FpL g) fun h => h.elim (fun e => by rw [e]; exact gi_b16) (fun e => by rw [e]; exact gi_bg))⟩
theorem ask_sw1s {w : World} {Fp : Nat → Prop} {b : Nat} {id : Int} {n : Nat} {ways : Int} {L : List Ln} {gx : Ln} (H : CacheAt w Fp b ⟨id, n, ways, L, none, (some gx)⟩) (line : Int) (hln : 0 ≤ line ∧ line < 4294967296) (pick : Int) (hg : ¬ gx.num = line) (hs : stateOf L line ≠ 0) (hw : writesB (stateOf L line) = false) (vx : Ln) (hv : vicL n ways L line pick = some vx) (hx : vx.state = 1) : Calls Try.prog 13 #[.pointer (some ⟨b, 0, none⟩), .int .u32 line, .bool true, .int .i64 pick] w (Ret fun v w' => ∃ A' cap', v = .tuple #[.slice A' ([askM id line true hln]).length cap', .int .i64 0] ∧ Own msgE w' A' cap' ([askM id line true hln]) ∧ (∀ g, inA A' g → w.heap.size ≤ g) ∧ ∃ Fp', CacheAt w' Fp' b ⟨id, n, ways, dropL L vx.num, (some (line, true)), (some gx)⟩ ∧ Only Fp w w' ∧ ∀ g, Fp' g → Fp g ∨ w.heap.size ≤ g) := by
 obtain ⟨lb, FpL, pa, pg, FpA, FpG, hB, hL, hA, hG, hP⟩ := H
 dsimp only at hB hL hA hG
 have ap_FpL_b := hP.lb
 have ap_FpG_b := hP.gb
 have ap2_FpL_FpG := hP.lg
 obtain ⟨hn1, hn2, hw1, hw2⟩ := hL.bd
 have gA_FpL : ∀ g, FpL g → Fp g ∨ w.heap.size ≤ g := fun g hg => .inl ((hP.foot g).2 (.inr (.inl hg)))
 have gA_FpG : ∀ g, FpG g → Fp g ∨ w.heap.size ≤ g := fun g hg => .inl ((hP.foot g).2 (.inr (.inr (.inr hg))))
 have hF := Only.refl (Fp) w
 refine Zen 91 Try.func13 ?_
 refine Zsr ?_
 refine Za ?_
 refine Zaq ?_
 refine Zsm ?_
 refine Zk cf43 (cnone_c hB) ?_
 rintro v w9 ⟨rfl, hw9⟩
 obtain rfl := hw9.symm
 refine Znf ?_
 refine Zkn ?_
 refine Zsm ?_
 refine Zm ?_
 refine Zk (args := #[.pointer (some ⟨b, 0, none⟩), .int .u32 line]) cf34 (state_c line (by omega) hB hL ap_FpL_b) ?_
 rintro v w3 ⟨rfl, hN4⟩
 refine Zaq ?_
 refine Zbl ?_
 refine Zsq ?_
 replace hA := hA.new hN4
 obtain ⟨rfl, hA0⟩ := hA
 replace hG := hG.new hN4
 obtain ⟨bg, rfl, hGB, hGF⟩ := hG
 have ne_bg_b : NE bg b := fun e => ap_FpG_b (e ▸ (hGF bg).2 rfl)
 have ap_FpL_bg : ¬ FpL bg := fun h => ap2_FpL_FpG bg h ((hGF bg).2 rfl)
 have gi_bg := gA_FpG bg ((hGF bg).2 rfl)
 refine Zgm ?_
 refine Zn ?_
 refine Zf fo83_2 ?_
 replace hB := hB.new hN4
 refine Zd pl80 (hB.cell 2 rfl) ?_
 refine Zv (.bool false) (fun _ fr => x_pneq Try.underlying80 rfl (fr.ev rfl) rfl rfl) ?_
 refine Zmm ?_
 refine Zn ?_
 refine Zf fo83_3 ?_
 refine Zd pl81 (hB.cell 3 rfl) ?_
 refine Zv (.bool true) (fun _ fr => x_pneq Try.underlying81 rfl (fr.ev rfl) rfl rfl) ?_
 refine Zmm ?_
 refine Zn ?_
 refine Zf fo83_3 ?_
 refine Zd pl81 (hB.cell 3 rfl) ?_
 refine Zn ?_
 refine Zf fo39_0 ?_
 refine Zd (v := .int .u32 gx.num) pl32 (hGB.cell 0 rfl) ?_
 refine Zm ?_
 refine Zv (.bool false) (fun _ fr => x_eql rfl (fr.ev rfl) (fr.ev rfl) (decide_eq_false hg)) ?_
 refine Zpt ?_
 refine Zpf ?_
 refine Zan ?_
 refine Zcf ?_
 refine Zsm ?_
 refine Zv (.bool true) (fun _ fr => x_neq rfl (fr.ev rfl) rfl (decide_eq_true hs)) ?_
 refine Zmm ?_
 refine Zv (.bool false) (fun _ fr => x_not rfl (fr.ev rfl) rfl) ?_
 refine Zmm ?_
 refine Zk cf44 (writes_c (stateOf L line) _) ?_
 rintro v _ ⟨rfl, hw9⟩
 obtain rfl := hw9.symm
 intro a fr
 rw [hw] at fr
 revert a
 refine Zpf ?_
 refine Zpt ?_
 refine Zan ?_
 refine Zcf ?_
 refine Zsk ?_
 refine Zbn ?_
 refine Zsq ?_
 refine Zsm ?_
 refine Zn ?_
 refine Zf fo83_1 ?_
 refine Zd pl79 (hB.cell 1 rfl) ?_
 refine Zmm ?_
 replace hL := hL.new hN4
 refine Zk (args := #[.pointer (some ⟨lb, 0, none⟩), .int .u32 line, .int .i64 pick]) cf45 (victim_c line (by omega) pick hL) ?_
 rintro v w7 ⟨rfl, hN8⟩
 intro a fr
 rw [hv] at fr
 simp only [Option.getD_some, Option.isSome_some] at fr
 revert a
 refine Zm ?_
 refine Ztt ?_
 refine Zna (z := zv1) (cs := lnE.arr ln0) (by kernel_rfl) fun b9 w10 hN11 B12 hb13 => ?_
 replace hB := hB.new hN8
 have ne_b_b9 := nelt hB.lt hb13
 replace hL := hL.new hN8
 have ap_FpL_b9 := hL.apart hb13
 replace hGB := hGB.new hN8
 have ne_bg_b9 := nelt hGB.lt hb13
 replace hF := (hF.trNew hN4).trNew hN8
 have g_b9 := hF.sz hb13
 refine ZsS sz39 (lnE.all _) B12 (lnE.size _) (lnE.size _) fun w14 hO15 B12 => ?_
 refine Zan ?_
 refine Zsm ?_
 refine Znt ?_
 refine Zsm ?_
 refine ZE lnE ag39 (B12.rangeE lnE) ?_
 replace hB := (hB.new hN11).only hO15 ne_b_b9
 replace hL := (hL.new hN11).only hO15 (ne1P ap_FpL_b9)
 refine Zk cf46 (out_s hB hL ap_FpL_b vx hx) ?_
 rintro v w20 ⟨rfl, hB16, Fp17, H18, mv19, hN21⟩
 have ap_Fp17_b : ¬ Fp17 b := moved_apartP mv19 ap_FpL_b hB.lt
 replace hGB := (hGB.new hN11).only hO15 ne_bg_b9
 have ap_Fp17_bg : ¬ Fp17 bg := moved_apartP mv19 ap_FpL_bg hGB.lt
 replace hF := (hF.trNew hN11).loc hO15 (.inr g_b9)
 have gA_Fp17 := gA_movedP hF mv19 gA_FpL
 clear hL
 replace hB := hB16
 clear hB16
 refine Zm ?_
 refine Ztt ?_
 refine Za ?_
 refine Zaq ?_
 refine Zsm ?_
 refine Zv (.bool false) (fun _ fr => x_not rfl (fr.ev rfl) rfl) ?_
 refine Znf ?_
 refine Zkn ?_
 refine Zgm ?_
 refine Zan ?_
 refine Zsm ?_
 refine Zmm ?_
 refine Zv (.agg (#[.int .u32 line, .bool true])) (fun a fr => x_build (cells := #[.int .u32 line, .bool true]) rfl (by simp only [List.map_toArray, List.map_cons, List.map_nil, show a.eval (.tmp 77) = .int .u32 line from fr.ev rfl, show a.eval (.tmp 78) = .bool true from fr.ev rfl]; kernel_rfl)) ?_
 refine Znb (cs := #[.int .u32 line, .bool true]) fun b22 w23 hN24 B25 hb26 => ?_
 replace hGB := hGB.only hN21 (fun h => h.elim ne_bg_b ap_FpL_bg)
 have ne_bg_b22 := nelt hGB.lt hb26
 have ne_b_b22 := nelt hB.lt hb26
 have ap_Fp17_b22 := H18.apart hb26
 replace hF := hF.locS hN21 (fun i => (fun h => h.elim (fun e => by rw [e]; exact (.inl ((hP.foot b).2 (.inl rfl)))) (fun h => gA_FpL i h)))
 have g_b22 := hF.sz hb26
 refine Zn ?_
 refine Zf fo83_2 ?_
 replace hB := hB.new hN24
 refine Zs1 (cs' := #[.int .i64 id, .pointer (some ⟨lb, 0, none⟩), .pointer (some ⟨b22, 0, none⟩), .pointer (some ⟨bg, 0, none⟩)]) sz80 hB (show 2 < 4 by decide) rfl fun w27 hO28 hB => ?_
 refine Znn ?_
 refine Zsr ?_
 refine Zaq ?_
 refine Zsm ?_
 refine Znt ?_
 refine Zrg ?_
 refine Zan ?_
 refine Zsm ?_
 refine Zmm ?_
 refine Zm ?_
 refine Zk (args := #[.pointer (some ⟨b, 0, none⟩), .int .i64 2, .int .u32 line]) cf47 (msg_c hB 2 line (by omega)) ?_
 rintro v w29 ⟨rfl, hN30⟩
 intro a fr
 refine fx_build1 (E := msgE) (p := (mkM 2 id 4 line)) elMsg (by decide) fr rfl rfl (by decide) rfl (fr.ev rfl) ?_
 clear fr a
 intro A31 w32 hN33 O34 hA35
 intro a fr
 refine fx_append (E := msgE) (l := []) (l' := [(mkM 2 id 4 line)]) elMsg fr rfl rfl (by decide) rfl (fr.ev rfl) (fr.ev rfl) (by first | rfl | (simp; done) | (simp; omega)) (by first | rfl | (simp; done) | (simp; omega)) Own.nil O34.view (by first | omega | (simp only [List.length_append, List.length_cons, List.length_nil, List.nil_append]; omega)) (by first | (unfold maxLen; done) | (unfold maxLen; first | omega | (simp only [List.length_append, List.length_cons, List.length_nil]; omega) | (simp; done) | (simp; omega))) ?_
 clear fr a
 intro A36 cap37 w38 O39 hO40 mv41
 replace hF := (((hF.trNew hN24).loc hO28 (.inl ((hP.foot b).2 (.inl rfl)))).trNew hN30).trNew hN33
 have gN_A36 := fun g (hg : inA A36 g) => (mv41 g hg).elim (fun h => absurd h (apart_none g)) (fun h => Nat.le_trans hF.size h)
 replace hO40 := only_none hO40
 refine Za ?_
 refine Zar ?_
 refine Zre rfl [_, _] ⟨rfl, rfl, trivial⟩ ?_
 have gi_b22 : Fp b22 ∨ w.heap.size ≤ b22 := .inr g_b22
 replace hGB := ((((hGB.new hN24).only hO28 ne_bg_b).new hN30).new hN33).new hO40
 replace H18 := ((((H18.new hN24).only hO28 (ne1P ap_Fp17_b)).new hN30).new hN33).new hO40
 replace B25 := (((B25.only hO28 ne_b_b22.symm).new hN30).new hN33).new hO40
 replace hB := ((hB.new hN30).new hN33).new hO40
 replace hF := hF.trNew hO40
 exact ⟨_, rfl, A36, cap37, rfl, O39, gN_A36, (fun k => k = b ∨ Fp17 k ∨ (fun k => k = b22) k ∨ (fun k => k = bg) k), ⟨lb, Fp17, _, _, (fun k => k = b22), (fun k => k = bg), hB, H18, ⟨b22, rfl, B25, fun _ => Iff.rfl, hln⟩, ⟨bg, rfl, hGB, fun _ => Iff.rfl⟩, ⟨ap_Fp17_b, (fun e => (show ¬ b = b22 from ne_b_b22) e), (fun e => (show ¬ b = bg from ne_bg_b.symm) e), (fun k hk e => ap_Fp17_b22 (e ▸ hk)), (fun k hk e => ap_Fp17_bg (e ▸ hk)), (fun k e e2 => (show ¬ b22 = bg from ne_bg_b22.symm) (e.symm.trans e2)), fun _ => Iff.rfl⟩⟩, hF, (fun g hg => hg.elim (fun e => by rw [e]; exact .inl ((hP.foot b).2 (.inl rfl))) fun h => h.elim (gA_Fp17 g) fun h => h.elim (fun e => by rw [e]; exact gi_b22) (fun e => by rw [e]; exact gi_bg))⟩
theorem ask_bw1s {w : World} {Fp : Nat → Prop} {b : Nat} {id : Int} {n : Nat} {ways : Int} {L : List Ln} {gx : Ln} (H : CacheAt w Fp b ⟨id, n, ways, L, none, (some gx)⟩) (line : Int) (hln : 0 ≤ line ∧ line < 4294967296) (pick : Int) (hg : ¬ gx.num = line) (hs : stateOf L line ≠ 0) (hw : writesB (stateOf L line) = false) (vx : Ln) (hv : vicL n ways L line pick = some vx) (hx : ¬ vx.state = 1) : Calls Try.prog 13 #[.pointer (some ⟨b, 0, none⟩), .int .u32 line, .bool true, .int .i64 pick] w (Ret fun v w' => v = .tuple #[.slice none 0 0, .int .i64 230] ∧ New w w') := by
 obtain ⟨lb, FpL, pa, pg, FpA, FpG, hB, hL, hA, hG, hP⟩ := H
 dsimp only at hB hL hA hG
 have ap_FpL_b := hP.lb
 obtain ⟨hn1, hn2, hw1, hw2⟩ := hL.bd
 have gA_FpG := fun g (hg : FpG g) => (Or.inl trivial : True ∨ w.heap.size ≤ g)
 have hF := Only.refl (fun _ => False) w
 refine Zen 91 Try.func13 ?_
 refine Zsr ?_
 refine Za ?_
 refine Zaq ?_
 refine Zsm ?_
 refine Zk cf43 (cnone_c hB) ?_
 rintro v w9 ⟨rfl, hw9⟩
 obtain rfl := hw9.symm
 refine Znf ?_
 refine Zkn ?_
 refine Zsm ?_
 refine Zm ?_
 refine Zk (args := #[.pointer (some ⟨b, 0, none⟩), .int .u32 line]) cf34 (state_c line (by omega) hB hL ap_FpL_b) ?_
 rintro v w3 ⟨rfl, hN4⟩
 refine Zaq ?_
 refine Zbl ?_
 refine Zsq ?_
 replace hA := hA.new hN4
 obtain ⟨rfl, hA0⟩ := hA
 replace hG := hG.new hN4
 obtain ⟨bg, rfl, hGB, hGF⟩ := hG
 have gi_bg := gA_FpG bg ((hGF bg).2 rfl)
 refine Zgm ?_
 refine Zn ?_
 refine Zf fo83_2 ?_
 replace hB := hB.new hN4
 refine Zd pl80 (hB.cell 2 rfl) ?_
 refine Zv (.bool false) (fun _ fr => x_pneq Try.underlying80 rfl (fr.ev rfl) rfl rfl) ?_
 refine Zmm ?_
 refine Zn ?_
 refine Zf fo83_3 ?_
 refine Zd pl81 (hB.cell 3 rfl) ?_
 refine Zv (.bool true) (fun _ fr => x_pneq Try.underlying81 rfl (fr.ev rfl) rfl rfl) ?_
 refine Zmm ?_
 refine Zn ?_
 refine Zf fo83_3 ?_
 refine Zd pl81 (hB.cell 3 rfl) ?_
 refine Zn ?_
 refine Zf fo39_0 ?_
 refine Zd (v := .int .u32 gx.num) pl32 (hGB.cell 0 rfl) ?_
 refine Zm ?_
 refine Zv (.bool false) (fun _ fr => x_eql rfl (fr.ev rfl) (fr.ev rfl) (decide_eq_false hg)) ?_
 refine Zpt ?_
 refine Zpf ?_
 refine Zan ?_
 refine Zcf ?_
 refine Zsm ?_
 refine Zv (.bool true) (fun _ fr => x_neq rfl (fr.ev rfl) rfl (decide_eq_true hs)) ?_
 refine Zmm ?_
 refine Zv (.bool false) (fun _ fr => x_not rfl (fr.ev rfl) rfl) ?_
 refine Zmm ?_
 refine Zk cf44 (writes_c (stateOf L line) _) ?_
 rintro v _ ⟨rfl, hw9⟩
 obtain rfl := hw9.symm
 intro a fr
 rw [hw] at fr
 revert a
 refine Zpf ?_
 refine Zpt ?_
 refine Zan ?_
 refine Zcf ?_
 refine Zsk ?_
 refine Zbn ?_
 refine Zsq ?_
 refine Zsm ?_
 refine Zn ?_
 refine Zf fo83_1 ?_
 refine Zd pl79 (hB.cell 1 rfl) ?_
 refine Zmm ?_
 replace hL := hL.new hN4
 refine Zk (args := #[.pointer (some ⟨lb, 0, none⟩), .int .u32 line, .int .i64 pick]) cf45 (victim_c line (by omega) pick hL) ?_
 rintro v w7 ⟨rfl, hN8⟩
 intro a fr
 rw [hv] at fr
 simp only [Option.getD_some, Option.isSome_some] at fr
 revert a
 refine Zm ?_
 refine Ztt ?_
 refine Zna (z := zv1) (cs := lnE.arr ln0) (by kernel_rfl) fun b9 w10 hN11 B12 hb13 => ?_
 replace hB := hB.new hN8
 have ne_b_b9 := nelt hB.lt hb13
 replace hL := hL.new hN8
 have ap_FpL_b9 := hL.apart hb13
 replace hF := (hF.trNew hN4).trNew hN8
 have g_b9 := hF.sz hb13
 refine ZsS sz39 (lnE.all _) B12 (lnE.size _) (lnE.size _) fun w14 hO15 B12 => ?_
 refine Zan ?_
 refine Zsm ?_
 refine Znt ?_
 refine Zsm ?_
 refine ZE lnE ag39 (B12.rangeE lnE) ?_
 replace hB := (hB.new hN11).only hO15 ne_b_b9
 replace hL := (hL.new hN11).only hO15 (ne1P ap_FpL_b9)
 refine Zk cf46 (out_b hB hL ap_FpL_b vx hx) ?_
 rintro v w16 ⟨rfl, hN17⟩
 refine Zm ?_
 refine Ztt ?_
 refine Za ?_
 refine Zaq ?_
 refine Zsm ?_
 refine Zv (.bool true) (fun _ fr => x_not rfl (fr.ev rfl) rfl) ?_
 refine Znt ?_
 refine Zsr ?_
 refine Za ?_
 refine Zar ?_
 refine Zr1 ?_
 refine Zr1 ?_
 refine Zre rfl [_, _] ⟨rfl, rfl, trivial⟩ ?_
 replace hF := ((hF.trNew hN11).loc hO15 (.inr g_b9)).trNew hN17
 exact ⟨_, rfl, rfl, hF⟩
end Go.Proofs.Ytflnlmibkbojcaa
namespace Go.Proofs.Ytflnlmibkbojcaa
open Go.RowKit
theorem allP_len {n : Nat} {ways : Int} {L : List Ln} (hf : Fits n ways L) : ∀ i, i ≤ n → ((allP n L i).length : Int) ≤ i * ways
  | 0, _ => by simp [allP]
  | i + 1, h => by
    have h1 := allP_len hf i (by omega)
    have h2 := hf i (by omega)
    rw [allP_succ, List.length_append]
    push_cast
    rw [Int.add_mul]
    omega
theorem len_most {n : Nat} {ways : Int} {L : List Ln} (hn : 0 < n ∧ n ≤ 64 ∧ 1 ≤ ways ∧ ways ≤ 8) (hf : Fits n ways L) : L.length ≤ 512 := by
  have h1 := allP_len hf n (Nat.le_refl n)
  rw [allP_end, allL_len hn.1] at h1
  have h2 : (n : Int) * ways ≤ 64 * 8 := Int.mul_le_mul (by omega) hn.2.2.2 (by omega) (by omega)
  omega
end Go.Proofs.Ytflnlmibkbojcaa
namespace Go.Proofs.Ytflnlmibkbojcaa
open Go.RowKit
theorem evict_e {w : World} {Fp : Nat → Prop} {b : Nat} {id : Int} {n : Nat} {ways : Int} {L : List Ln} {ask : Option (Int × Bool)} {giv : Option Ln} (H : CacheAt w Fp b ⟨id, n, ways, L, ask, giv⟩) (pick : Int) (h0 : L.length = 0) : Calls Try.prog 25 #[.pointer (some ⟨b, 0, none⟩), .int .i64 pick] w (Ret fun v w' => v = .slice none 0 0 ∧ New w w') := by
 obtain ⟨lb, FpL, pa, pg, FpA, FpG, hB, hL, hA, hG, hP⟩ := H
 dsimp only at hB hL hA hG
 have ap_FpL_b := hP.lb
 obtain ⟨hn1, hn2, hw1, hw2⟩ := hL.bd
 have hlm := len_most hL.bd hL.fits
 have hal := allL_len hL.bd.1 L
 have hF := Only.refl (fun _ => False) w
 refine Zen 32 Try.func25 ?_
 refine Zsr ?_
 refine Zan ?_
 refine Zsm ?_
 refine Zk (args := #[.pointer (some ⟨b, 0, none⟩)]) cf30 (clines_c hB hL ap_FpL_b (by omega)) ?_
 rintro v w5 ⟨A1, cap2, rfl, O3, hA4, hN6⟩
 refine Zaq ?_
 refine Zsq ?_
 have hlz : ((((allL n L).length) : Nat) : Int) = 0 := by omega
 refine Zgm ?_
 refine Zv _ (fun _ fr => x_len Try.underlying40 rfl (fr.ev rfl)) ?_
 refine Zv (.bool true) (fun _ fr => x_eql rfl (fr.ev rfl) rfl (decide_eq_true (by omega))) ?_
 refine Znt ?_
 refine Zsr ?_
 refine Zar ?_
 refine Zr1 ?_
 refine Zre rfl [_] ⟨rfl, trivial⟩ ?_
 replace hF := hF.trNew hN6
 exact ⟨_, rfl, rfl, hF⟩
theorem evict_s {w : World} {Fp : Nat → Prop} {b : Nat} {id : Int} {n : Nat} {ways : Int} {L : List Ln} {ask : Option (Int × Bool)} {giv : Option Ln} (H : CacheAt w Fp b ⟨id, n, ways, L, ask, giv⟩) (pick : Int) (h0 : ¬ L.length = 0) (hx : ((allL n L).getD (pickAt pick (allL n L).length) ln0).state = 1) : Calls Try.prog 25 #[.pointer (some ⟨b, 0, none⟩), .int .i64 pick] w (Ret fun v w' => ∃ A' cap', v = .slice A' (([] : List Msg)).length cap' ∧ Own msgE w' A' cap' (([] : List Msg)) ∧ (∀ g, inA A' g → w.heap.size ≤ g) ∧ ∃ Fp', CacheAt w' Fp' b ⟨id, n, ways, dropL L ((allL n L).getD (pickAt pick (allL n L).length) ln0).num, ask, giv⟩ ∧ Only Fp w w' ∧ ∀ g, Fp' g → Fp g ∨ w.heap.size ≤ g) := by
 obtain ⟨lb, FpL, pa, pg, FpA, FpG, hB, hL, hA, hG, hP⟩ := H
 dsimp only at hB hL hA hG
 have ap_FpL_b := hP.lb
 have ap_FpA_b := hP.ab
 have ap_FpG_b := hP.gb
 have ap2_FpL_FpA := hP.la
 have ap2_FpL_FpG := hP.lg
 have ap2_FpA_FpG := hP.ag
 obtain ⟨hn1, hn2, hw1, hw2⟩ := hL.bd
 have gA_FpL : ∀ g, FpL g → Fp g ∨ w.heap.size ≤ g := fun g hg => .inl ((hP.foot g).2 (.inr (.inl hg)))
 have gA_FpA : ∀ g, FpA g → Fp g ∨ w.heap.size ≤ g := fun g hg => .inl ((hP.foot g).2 (.inr (.inr (.inl hg))))
 have gA_FpG : ∀ g, FpG g → Fp g ∨ w.heap.size ≤ g := fun g hg => .inl ((hP.foot g).2 (.inr (.inr (.inr hg))))
 have hlm := len_most hL.bd hL.fits
 have hal := allL_len hL.bd.1 L
 have hF := Only.refl (Fp) w
 refine Zen 32 Try.func25 ?_
 refine Zsr ?_
 refine Zan ?_
 refine Zsm ?_
 refine Zk (args := #[.pointer (some ⟨b, 0, none⟩)]) cf30 (clines_c hB hL ap_FpL_b (by omega)) ?_
 rintro v w5 ⟨A1, cap2, rfl, O3, hA4, hN6⟩
 refine Zaq ?_
 refine Zsq ?_
 have hlz : ¬ ((((allL n L).length) : Nat) : Int) = 0 := by omega
 refine Zgm ?_
 refine Zv _ (fun _ fr => x_len Try.underlying40 rfl (fr.ev rfl)) ?_
 refine Zv (.bool false) (fun _ fr => x_eql rfl (fr.ev rfl) rfl (decide_eq_false hlz)) ?_
 refine Znf ?_
 refine Zkn ?_
 refine Zsq ?_
 have hps : 0 < (allL n L).length := by omega
 have htb := tmod_bd pick ((allL n L).length) hps
 have hpk := pickAt_lt pick ((allL n L).length) hps
 refine Zgm ?_
 refine Zmm ?_
 refine Zm ?_
 refine Zv _ (fun _ fr => x_len Try.underlying40 rfl (fr.ev rfl)) ?_
 refine Zv (.int .i64 (Int.tmod pick (((allL n L).length : Nat) : Int))) (fun _ fr => x_rem rfl (fr.ev rfl) (fr.ev rfl) (by omega) rfl) ?_
 refine Zm ?_
 refine Zv _ (fun _ fr => x_len Try.underlying40 rfl (fr.ev rfl)) ?_
 refine Zv _ (fun _ fr => x_add rfl (fr.ev rfl) (fr.ev rfl) (i64w (r := Int.tmod pick (((allL n L).length : Nat) : Int) + (((allL n L).length : Nat) : Int)) (by omega) (by omega))) ?_
 refine Zm ?_
 refine Zv _ (fun _ fr => x_len Try.underlying40 rfl (fr.ev rfl)) ?_
 refine Zv (.int .i64 ((pickAt pick ((allL n L).length) : Nat) : Int)) (fun _ fr => x_rem rfl (fr.ev rfl) (fr.ev rfl) (by omega) (pickAt_eq pick ((allL n L).length) (by omega))) ?_
 obtain ⟨g7, o8, hA9⟩ := (O3.view).some_ (by omega)
 refine Zv (.pointer (some ⟨g7, o8 + (pickAt pick ((allL n L).length)) * 18, none⟩)) (fun _ fr => x_indexV Try.underlying40 sz39 rfl (fr.ev rfl) hA9 (fr.ev rfl) (by omega) rfl) ?_
 refine ZE lnE ag39 ((O3.view).elem hA9 (pickAt pick ((allL n L).length)) ln0 (by omega)) ?_
 replace hB := hB.new hN6
 replace hL := hL.new hN6
 refine Zk cf46 (out_s hB hL ap_FpL_b ((allL n L).getD (pickAt pick ((allL n L).length)) ln0) hx) ?_
 rintro v w14 ⟨rfl, hB10, Fp11, H12, mv13, hN15⟩
 have ap_Fp11_b : ¬ Fp11 b := moved_apartP mv13 ap_FpL_b hB.lt
 replace hA := hA.new hN6
 have ap2_Fp11_FpA : ∀ k, Fp11 k → FpA k → False := moved_apart2P mv13 ap2_FpL_FpA fun _ hg => hA.lt hg
 replace hG := hG.new hN6
 have ap2_Fp11_FpG : ∀ k, Fp11 k → FpG k → False := moved_apart2P mv13 ap2_FpL_FpG fun _ hg => hG.lt hg
 replace hF := hF.trNew hN6
 have gA_Fp11 := gA_movedP hF mv13 gA_FpL
 clear hL
 replace hB := hB10
 clear hB10
 refine Zm ?_
 refine Ztt ?_
 refine Za ?_
 refine Zan ?_
 refine Zsm ?_
 refine Zar ?_
 refine Zre rfl [_] ⟨rfl, trivial⟩ ?_
 replace hA := hA.only hN15 (fun g hg => (fun h => h.elim ((ne1P ap_FpA_b) g hg) ((fun g h1 h2 => (symP ap2_FpL_FpA) g h1 h2) g hg)))
 replace hG := hG.only hN15 (fun g hg => (fun h => h.elim ((ne1P ap_FpG_b) g hg) ((fun g h1 h2 => (symP ap2_FpL_FpG) g h1 h2) g hg)))
 replace hF := hF.locS hN15 (fun i => (fun h => h.elim (fun e => by rw [e]; exact (.inl ((hP.foot b).2 (.inl rfl)))) (fun h => gA_FpL i h)))
 exact ⟨_, rfl, none, 0, rfl, Own.nil, (fun g hg => absurd hg (apart_none g)), (fun k => k = b ∨ Fp11 k ∨ FpA k ∨ FpG k), ⟨lb, Fp11, _, _, FpA, FpG, hB, H12, hA, hG, ⟨ap_Fp11_b, ap_FpA_b, ap_FpG_b, ap2_Fp11_FpA, ap2_Fp11_FpG, ap2_FpA_FpG, fun _ => Iff.rfl⟩⟩, hF, (fun g hg => hg.elim (fun e => by rw [e]; exact .inl ((hP.foot b).2 (.inl rfl))) fun h => h.elim (gA_Fp11 g) fun h => h.elim (gA_FpA g) (gA_FpG g))⟩
theorem evict_p {w : World} {Fp : Nat → Prop} {b : Nat} {id : Int} {n : Nat} {ways : Int} {L : List Ln} {ask : Option (Int × Bool)} (H : CacheAt w Fp b ⟨id, n, ways, L, ask, none⟩) (pick : Int) (h0 : ¬ L.length = 0) (hx : ¬ ((allL n L).getD (pickAt pick (allL n L).length) ln0).state = 1) : Calls Try.prog 25 #[.pointer (some ⟨b, 0, none⟩), .int .i64 pick] w (Ret fun v w' => ∃ A' cap', v = .slice A' ([putM id ((allL n L).getD (pickAt pick (allL n L).length) ln0)]).length cap' ∧ Own msgE w' A' cap' ([putM id ((allL n L).getD (pickAt pick (allL n L).length) ln0)]) ∧ (∀ g, inA A' g → w.heap.size ≤ g) ∧ ∃ Fp', CacheAt w' Fp' b ⟨id, n, ways, dropL L ((allL n L).getD (pickAt pick (allL n L).length) ln0).num, ask, (some ((allL n L).getD (pickAt pick (allL n L).length) ln0))⟩ ∧ Only Fp w w' ∧ ∀ g, Fp' g → Fp g ∨ w.heap.size ≤ g) := by
 obtain ⟨lb, FpL, pa, pg, FpA, FpG, hB, hL, hA, hG, hP⟩ := H
 dsimp only at hB hL hA hG
 have ap_FpL_b := hP.lb
 have ap_FpA_b := hP.ab
 have ap2_FpL_FpA := hP.la
 obtain ⟨hn1, hn2, hw1, hw2⟩ := hL.bd
 have gA_FpL : ∀ g, FpL g → Fp g ∨ w.heap.size ≤ g := fun g hg => .inl ((hP.foot g).2 (.inr (.inl hg)))
 have gA_FpA : ∀ g, FpA g → Fp g ∨ w.heap.size ≤ g := fun g hg => .inl ((hP.foot g).2 (.inr (.inr (.inl hg))))
 have hlm := len_most hL.bd hL.fits
 have hal := allL_len hL.bd.1 L
 have hF := Only.refl (Fp) w
 refine Zen 32 Try.func25 ?_
 refine Zsr ?_
 refine Zaq ?_
 obtain ⟨rfl, hG0⟩ := hG
 refine Zgm ?_
 refine Zk (args := #[.pointer (some ⟨b, 0, none⟩)]) cf30 (clines_c hB hL ap_FpL_b (by omega)) ?_
 rintro v w5 ⟨A1, cap2, rfl, O3, hA4, hN6⟩
 refine Zaq ?_
 refine Zsq ?_
 have hlz : ¬ ((((allL n L).length) : Nat) : Int) = 0 := by omega
 refine Zgm ?_
 refine Zv _ (fun _ fr => x_len Try.underlying40 rfl (fr.ev rfl)) ?_
 refine Zv (.bool false) (fun _ fr => x_eql rfl (fr.ev rfl) rfl (decide_eq_false hlz)) ?_
 refine Znf ?_
 refine Zkn ?_
 refine Zsq ?_
 have hps : 0 < (allL n L).length := by omega
 have htb := tmod_bd pick ((allL n L).length) hps
 have hpk := pickAt_lt pick ((allL n L).length) hps
 refine Zgm ?_
 refine Zmm ?_
 refine Zm ?_
 refine Zv _ (fun _ fr => x_len Try.underlying40 rfl (fr.ev rfl)) ?_
 refine Zv (.int .i64 (Int.tmod pick (((allL n L).length : Nat) : Int))) (fun _ fr => x_rem rfl (fr.ev rfl) (fr.ev rfl) (by omega) rfl) ?_
 refine Zm ?_
 refine Zv _ (fun _ fr => x_len Try.underlying40 rfl (fr.ev rfl)) ?_
 refine Zv _ (fun _ fr => x_add rfl (fr.ev rfl) (fr.ev rfl) (i64w (r := Int.tmod pick (((allL n L).length : Nat) : Int) + (((allL n L).length : Nat) : Int)) (by omega) (by omega))) ?_
 refine Zm ?_
 refine Zv _ (fun _ fr => x_len Try.underlying40 rfl (fr.ev rfl)) ?_
 refine Zv (.int .i64 ((pickAt pick ((allL n L).length) : Nat) : Int)) (fun _ fr => x_rem rfl (fr.ev rfl) (fr.ev rfl) (by omega) (pickAt_eq pick ((allL n L).length) (by omega))) ?_
 obtain ⟨g7, o8, hA9⟩ := (O3.view).some_ (by omega)
 refine Zv (.pointer (some ⟨g7, o8 + (pickAt pick ((allL n L).length)) * 18, none⟩)) (fun _ fr => x_indexV Try.underlying40 sz39 rfl (fr.ev rfl) hA9 (fr.ev rfl) (by omega) rfl) ?_
 refine ZE lnE ag39 ((O3.view).elem hA9 (pickAt pick ((allL n L).length)) ln0 (by omega)) ?_
 replace hB := hB.new hN6
 replace hL := hL.new hN6
 refine Zk cf46 (out_n hB hL ap_FpL_b ((allL n L).getD (pickAt pick ((allL n L).length)) ln0) hx) ?_
 rintro v w21 ⟨A14, cap15, rfl, O16, hA17, b18, B19, hB10, hb20, Fp11, H12, mv13, ap_Fp11_b18, ap_A14_b18, ap2_Fp11_A14, hN22⟩
 have ap_Fp11_b : ¬ Fp11 b := moved_apartP mv13 ap_FpL_b hB.lt
 replace hA := hA.new hN6
 have ap2_Fp11_FpA : ∀ k, Fp11 k → FpA k → False := moved_apart2P mv13 ap2_FpL_FpA fun _ hg => hA.lt hg
 replace hF := hF.trNew hN6
 have gA_Fp11 := gA_movedP hF mv13 gA_FpL
 have ne_b_b18 := nelt hB.lt hb20
 have ap_FpA_b18 := hA.apart hb20
 have g_b18 := hF.sz hb20
 have gN_A14 := fun g (hg : inA A14 g) => Nat.le_trans hF.size (hA17 g hg)
 clear hL
 replace hB := hB10
 clear hB10
 have gi_b18 : Fp b18 ∨ w.heap.size ≤ b18 := .inr g_b18
 refine Zm ?_
 refine Ztt ?_
 refine Za ?_
 refine Zan ?_
 refine Zsm ?_
 refine Zar ?_
 refine Zre rfl [_] ⟨rfl, trivial⟩ ?_
 replace hA := hA.only hN22 (fun g hg => (fun h => h.elim ((ne1P ap_FpA_b) g hg) ((fun g h1 h2 => (symP ap2_FpL_FpA) g h1 h2) g hg)))
 replace hF := hF.locS hN22 (fun i => (fun h => h.elim (fun e => by rw [e]; exact (.inl ((hP.foot b).2 (.inl rfl)))) (fun h => gA_FpL i h)))
 exact ⟨_, rfl, A14, cap15, rfl, O16, gN_A14, (fun k => k = b ∨ Fp11 k ∨ FpA k ∨ (fun k => k = b18) k), ⟨lb, Fp11, _, _, FpA, (fun k => k = b18), hB, H12, hA, ⟨b18, rfl, B19, fun _ => Iff.rfl⟩, ⟨ap_Fp11_b, ap_FpA_b, (fun e => (show ¬ b = b18 from ne_b_b18) e), ap2_Fp11_FpA, (fun k hk e => ap_Fp11_b18 (e ▸ hk)), (fun k hk e => ap_FpA_b18 (e ▸ hk)), fun _ => Iff.rfl⟩⟩, hF, (fun g hg => hg.elim (fun e => by rw [e]; exact .inl ((hP.foot b).2 (.inl rfl))) fun h => h.elim (gA_Fp11 g) fun h => h.elim (gA_FpA g) (fun e => by rw [e]; exact gi_b18))⟩
theorem evict_b {w : World} {Fp : Nat → Prop} {b : Nat} {id : Int} {n : Nat} {ways : Int} {L : List Ln} {ask : Option (Int × Bool)} {gx : Ln} (H : CacheAt w Fp b ⟨id, n, ways, L, ask, (some gx)⟩) (pick : Int) (h0 : ¬ L.length = 0) (hx : ¬ ((allL n L).getD (pickAt pick (allL n L).length) ln0).state = 1) : Calls Try.prog 25 #[.pointer (some ⟨b, 0, none⟩), .int .i64 pick] w (Ret fun v w' => v = .slice none 0 0 ∧ New w w') := by
 obtain ⟨lb, FpL, pa, pg, FpA, FpG, hB, hL, hA, hG, hP⟩ := H
 dsimp only at hB hL hA hG
 have ap_FpL_b := hP.lb
 obtain ⟨hn1, hn2, hw1, hw2⟩ := hL.bd
 have gA_FpG := fun g (hg : FpG g) => (Or.inl trivial : True ∨ w.heap.size ≤ g)
 have hlm := len_most hL.bd hL.fits
 have hal := allL_len hL.bd.1 L
 have hF := Only.refl (fun _ => False) w
 refine Zen 32 Try.func25 ?_
 refine Zsr ?_
 refine Zaq ?_
 obtain ⟨bg, rfl, hGB, hGF⟩ := hG
 have gi_bg := gA_FpG bg ((hGF bg).2 rfl)
 refine Zgm ?_
 refine Zk (args := #[.pointer (some ⟨b, 0, none⟩)]) cf30 (clines_c hB hL ap_FpL_b (by omega)) ?_
 rintro v w5 ⟨A1, cap2, rfl, O3, hA4, hN6⟩
 refine Zaq ?_
 refine Zsq ?_
 have hlz : ¬ ((((allL n L).length) : Nat) : Int) = 0 := by omega
 refine Zgm ?_
 refine Zv _ (fun _ fr => x_len Try.underlying40 rfl (fr.ev rfl)) ?_
 refine Zv (.bool false) (fun _ fr => x_eql rfl (fr.ev rfl) rfl (decide_eq_false hlz)) ?_
 refine Znf ?_
 refine Zkn ?_
 refine Zsq ?_
 have hps : 0 < (allL n L).length := by omega
 have htb := tmod_bd pick ((allL n L).length) hps
 have hpk := pickAt_lt pick ((allL n L).length) hps
 refine Zgm ?_
 refine Zmm ?_
 refine Zm ?_
 refine Zv _ (fun _ fr => x_len Try.underlying40 rfl (fr.ev rfl)) ?_
 refine Zv (.int .i64 (Int.tmod pick (((allL n L).length : Nat) : Int))) (fun _ fr => x_rem rfl (fr.ev rfl) (fr.ev rfl) (by omega) rfl) ?_
 refine Zm ?_
 refine Zv _ (fun _ fr => x_len Try.underlying40 rfl (fr.ev rfl)) ?_
 refine Zv _ (fun _ fr => x_add rfl (fr.ev rfl) (fr.ev rfl) (i64w (r := Int.tmod pick (((allL n L).length : Nat) : Int) + (((allL n L).length : Nat) : Int)) (by omega) (by omega))) ?_
 refine Zm ?_
 refine Zv _ (fun _ fr => x_len Try.underlying40 rfl (fr.ev rfl)) ?_
 refine Zv (.int .i64 ((pickAt pick ((allL n L).length) : Nat) : Int)) (fun _ fr => x_rem rfl (fr.ev rfl) (fr.ev rfl) (by omega) (pickAt_eq pick ((allL n L).length) (by omega))) ?_
 obtain ⟨g7, o8, hA9⟩ := (O3.view).some_ (by omega)
 refine Zv (.pointer (some ⟨g7, o8 + (pickAt pick ((allL n L).length)) * 18, none⟩)) (fun _ fr => x_indexV Try.underlying40 sz39 rfl (fr.ev rfl) hA9 (fr.ev rfl) (by omega) rfl) ?_
 refine ZE lnE ag39 ((O3.view).elem hA9 (pickAt pick ((allL n L).length)) ln0 (by omega)) ?_
 replace hB := hB.new hN6
 replace hL := hL.new hN6
 refine Zk cf46 (out_b hB hL ap_FpL_b ((allL n L).getD (pickAt pick ((allL n L).length)) ln0) hx) ?_
 rintro v w10 ⟨rfl, hN11⟩
 refine Zm ?_
 refine Ztt ?_
 refine Za ?_
 refine Zan ?_
 refine Zsm ?_
 refine Zar ?_
 refine Zre rfl [_] ⟨rfl, trivial⟩ ?_
 replace hF := (hF.trNew hN6).trNew hN11
 exact ⟨_, rfl, rfl, hF⟩
end Go.Proofs.Ytflnlmibkbojcaa
namespace Go.Proofs.Ytflnlmibkbojcaa
open Go.RowKit
def TakeR (w : World) (Fp : Nat → Prop) (b : Nat) (r : CD × List Msg × Int) (v : Value) (w' : World) : Prop :=
  ∃ A' cap', v = .tuple #[.slice A' r.2.1.length cap', .int .i64 r.2.2] ∧ Own msgE w' A' cap' r.2.1 ∧ (∀ g, inA A' g → w.heap.size ≤ g) ∧ ∃ Fp', CacheAt w' Fp' b r.1 ∧ Only Fp w w' ∧ ∀ g, Fp' g → Fp g ∨ w.heap.size ≤ g
theorem takeR_no {w w' : World} {Fp : Nat → Prop} {b : Nat} {r : CD × List Msg × Int} {d : CD} {v : Value} (e : Int) (hr : r = (d, [], e)) (hv : v = .tuple #[.slice none 0 0, .int .i64 e]) (h : CacheAt w' Fp b d) (hn : New w w') : TakeR w Fp b r v w' := by
  subst hr hv
  exact ⟨none, 0, rfl, Own.nil, fun g hg => absurd hg (apart_none g), Fp, h, hn.mono fun _ _ h => h.elim, fun g hg => .inl hg⟩
theorem takeR_ok {w w' : World} {Fp : Nat → Prop} {b : Nat} {r : CD × List Msg × Int} {d2 : CD} {l : List Msg} {v : Value} (hr : r = (d2, l, 0)) (h : ∃ A' cap', v = .tuple #[.slice A' l.length cap', .int .i64 0] ∧ Own msgE w' A' cap' l ∧ (∀ g, inA A' g → w.heap.size ≤ g) ∧ ∃ Fp', CacheAt w' Fp' b d2 ∧ Only Fp w w' ∧ ∀ g, Fp' g → Fp g ∨ w.heap.size ≤ g) : TakeR w Fp b r v w' := by
  subst hr
  exact h
theorem chk_kind {m : Msg} (h : chk m = 0) (hd : m.dst ≠ 4) : cacheK m.kind = true := by
  unfold chk goodMsg at h
  simp [hd] at h
  exact h.1
theorem take_6 {w : World} {Fp : Nat → Prop} {b : Nat} {id : Int} {n : Nat} {ways : Int} {L : List Ln} {ask : Option (Int × Bool)} {giv : Option Ln} (H : CacheAt w Fp b ⟨id, n, ways, L, ask, giv⟩) (m : Msg) (hck : chk m = 0) (hdn : m.dst = id) (hk : m.kind = 6) : Calls Try.prog 14 #[.pointer (some ⟨b, 0, none⟩), .agg (msgE.arr m)] w (Ret fun v w' => TakeR w Fp b (takeF ⟨id, n, ways, L, ask, giv⟩ m) v w') := by
  have h0 : ¬ (chk m ≠ 0 ∨ m.dst ≠ id) := fun h => h.elim (fun h => h hck) (fun h => h hdn)
  have e8 : ¬ (m.kind = 8 ∨ m.kind = 9 ∨ m.kind = 10) := by omega
  have e4 : ¬ (m.kind = 4 ∨ m.kind = 5) := by omega
  cases hw : writesB (stateOf L m.line) with
  | true =>
    refine (take_pan H m hck hdn (f := 52) Try.func52 nm52 rfl (by rw [hk]; rfl) fun w1 hn hC => drop_no hC m hw).mono ?_
    rintro e w' ⟨v, rfl, hv, hC, hn⟩
    exact ⟨v, rfl, takeR_no 220 (by unfold takeF; rw [if_neg h0, if_neg e8, if_neg e4, if_pos hk, if_pos hw]) hv hC hn⟩
  | false =>
    refine (take_ret H m hck hdn (f := 52) Try.func52 nm52 rfl (by rw [hk]; rfl) fun w1 hO hC => drop_ok hC m hw).mono ?_
    rintro e w' ⟨v, rfl, hv⟩
    exact ⟨v, rfl, takeR_ok (by unfold takeF; rw [if_neg h0, if_neg e8, if_neg e4, if_pos hk, if_neg (by rw [hw]; decide)]) hv⟩
theorem take_7 {w : World} {Fp : Nat → Prop} {b : Nat} {id : Int} {n : Nat} {ways : Int} {L : List Ln} {ask : Option (Int × Bool)} {giv : Option Ln} (H : CacheAt w Fp b ⟨id, n, ways, L, ask, giv⟩) (m : Msg) (hck : chk m = 0) (hdn : m.dst = id) (hk : m.kind = 7) : Calls Try.prog 14 #[.pointer (some ⟨b, 0, none⟩), .agg (msgE.arr m)] w (Ret fun v w' => TakeR w Fp b (takeF ⟨id, n, ways, L, ask, giv⟩ m) v w') := by
  have h0 : ¬ (chk m ≠ 0 ∨ m.dst ≠ id) := fun h => h.elim (fun h => h hck) (fun h => h hdn)
  have e8 : ¬ (m.kind = 8 ∨ m.kind = 9 ∨ m.kind = 10) := by omega
  have e4 : ¬ (m.kind = 4 ∨ m.kind = 5) := by omega
  have e6 : ¬ m.kind = 6 := by omega
  cases giv with
  | none =>
    refine (take_pan H m hck hdn (f := 53) Try.func53 nm53 rfl (by rw [hk]; rfl) fun w1 hn hC => acked_none hC m).mono ?_
    rintro e w' ⟨v, rfl, hv, hC, hn⟩
    exact ⟨v, rfl, takeR_no 220 (by unfold takeF; rw [if_neg h0, if_neg e8, if_neg e4, if_neg e6, if_neg (by simp [mine])]) hv hC hn⟩
  | some gx =>
    by_cases hg : gx.num = m.line
    · refine (take_ret H m hck hdn (f := 53) Try.func53 nm53 rfl (by rw [hk]; rfl) fun w1 hO hC => acked_ok hC m hg).mono ?_
      rintro e w' ⟨v, rfl, hv⟩
      exact ⟨v, rfl, takeR_ok (by unfold takeF; rw [if_neg h0, if_neg e8, if_neg e4, if_neg e6, if_pos (by simp [mine, hg])]) hv⟩
    · refine (take_pan H m hck hdn (f := 53) Try.func53 nm53 rfl (by rw [hk]; rfl) fun w1 hn hC => acked_ne hC m hg).mono ?_
      rintro e w' ⟨v, rfl, hv, hC, hn⟩
      exact ⟨v, rfl, takeR_no 220 (by unfold takeF; rw [if_neg h0, if_neg e8, if_neg e4, if_neg e6, if_neg (by simp [mine, hg])]) hv hC hn⟩
theorem take_4 {w : World} {Fp : Nat → Prop} {b : Nat} {id : Int} {n : Nat} {ways : Int} {L : List Ln} {ask : Option (Int × Bool)} {giv : Option Ln} (H : CacheAt w Fp b ⟨id, n, ways, L, ask, giv⟩) (m : Msg) (hck : chk m = 0) (hdn : m.dst = id) (hk : m.kind = 4) : Calls Try.prog 14 #[.pointer (some ⟨b, 0, none⟩), .agg (msgE.arr m)] w (Ret fun v w' => TakeR w Fp b (takeF ⟨id, n, ways, L, ask, giv⟩ m) v w') := by
  have h0 : ¬ (chk m ≠ 0 ∨ m.dst ≠ id) := fun h => h.elim (fun h => h hck) (fun h => h hdn)
  have e8 : ¬ (m.kind = 8 ∨ m.kind = 9 ∨ m.kind = 10) := by omega
  have e4 : m.kind = 4 ∨ m.kind = 5 := by omega
  cases giv with
  | none =>
    cases hw : writesB (stateOf L m.line) with
    | true =>
      refine (take_ret H m hck hdn (f := 51) Try.func51 nm51 rfl (by rw [hk]; rfl) fun w1 hO hC => back_sn hC m hw hk).mono ?_
      rintro e w' ⟨v, rfl, hv⟩
      exact ⟨v, rfl, takeR_ok (by unfold takeF; rw [if_neg h0, if_neg e8, if_pos e4]; show takeF.backF _ m = _; unfold takeF.backF; rw [if_pos hw, if_pos hk]) hv⟩
    | false =>
      refine (take_pan H m hck hdn (f := 51) Try.func51 nm51 rfl (by rw [hk]; rfl) fun w1 hn hC => back_non hC m hw).mono ?_
      rintro e w' ⟨v, rfl, hv, hC, hn⟩
      exact ⟨v, rfl, takeR_no 220 (by unfold takeF; rw [if_neg h0, if_neg e8, if_pos e4]; show takeF.backF _ m = _; unfold takeF.backF; rw [if_neg (by rw [hw]; decide)]) hv hC hn⟩
  | some gx =>
    by_cases hg : gx.num = m.line
    · refine (take_ret H m hck hdn (f := 51) Try.func51 nm51 rfl (by rw [hk]; rfl) fun w1 hO hC => (back_g hC m hg).mono (by rintro e w' ⟨v, rfl, A, c, hv, hO, hA, hn⟩; exact ⟨v, rfl, A, c, hv, hO, hA, Fp, hC.new hn, hn.mono fun _ _ h => h.elim, fun g hg => .inl hg⟩)).mono ?_
      rintro e w' ⟨v, rfl, hv⟩
      exact ⟨v, rfl, takeR_ok (by unfold takeF; rw [if_neg h0, if_neg e8, if_pos e4]; show (if gx.num = m.line then _ else _) = _; rw [if_pos hg]) hv⟩
    · cases hw : writesB (stateOf L m.line) with
      | true =>
        refine (take_ret H m hck hdn (f := 51) Try.func51 nm51 rfl (by rw [hk]; rfl) fun w1 hO hC => back_sg hC m hg hw hk).mono ?_
        rintro e w' ⟨v, rfl, hv⟩
        exact ⟨v, rfl, takeR_ok (by unfold takeF; rw [if_neg h0, if_neg e8, if_pos e4]; show (if gx.num = m.line then _ else _) = _; rw [if_neg hg]; show takeF.backF _ m = _; unfold takeF.backF; rw [if_pos hw, if_pos hk]) hv⟩
      | false =>
        refine (take_pan H m hck hdn (f := 51) Try.func51 nm51 rfl (by rw [hk]; rfl) fun w1 hn hC => back_nog hC m hg hw).mono ?_
        rintro e w' ⟨v, rfl, hv, hC, hn⟩
        exact ⟨v, rfl, takeR_no 220 (by unfold takeF; rw [if_neg h0, if_neg e8, if_pos e4]; show (if gx.num = m.line then _ else _) = _; rw [if_neg hg]; show takeF.backF _ m = _; unfold takeF.backF; rw [if_neg (by rw [hw]; decide)]) hv hC hn⟩
theorem take_5 {w : World} {Fp : Nat → Prop} {b : Nat} {id : Int} {n : Nat} {ways : Int} {L : List Ln} {ask : Option (Int × Bool)} {giv : Option Ln} (H : CacheAt w Fp b ⟨id, n, ways, L, ask, giv⟩) (m : Msg) (hck : chk m = 0) (hdn : m.dst = id) (hk : m.kind = 5) : Calls Try.prog 14 #[.pointer (some ⟨b, 0, none⟩), .agg (msgE.arr m)] w (Ret fun v w' => TakeR w Fp b (takeF ⟨id, n, ways, L, ask, giv⟩ m) v w') := by
  have h0 : ¬ (chk m ≠ 0 ∨ m.dst ≠ id) := fun h => h.elim (fun h => h hck) (fun h => h hdn)
  have e8 : ¬ (m.kind = 8 ∨ m.kind = 9 ∨ m.kind = 10) := by omega
  have e4 : m.kind = 4 ∨ m.kind = 5 := by omega
  have h44 : ¬ m.kind = 4 := by omega
  cases giv with
  | none =>
    cases hw : writesB (stateOf L m.line) with
    | true =>
      refine (take_ret H m hck hdn (f := 51) Try.func51 nm51 rfl (by rw [hk]; rfl) fun w1 hO hC => back_dn hC m hw h44).mono ?_
      rintro e w' ⟨v, rfl, hv⟩
      exact ⟨v, rfl, takeR_ok (by unfold takeF; rw [if_neg h0, if_neg e8, if_pos e4]; show takeF.backF _ m = _; unfold takeF.backF; rw [if_pos hw, if_neg h44]) hv⟩
    | false =>
      refine (take_pan H m hck hdn (f := 51) Try.func51 nm51 rfl (by rw [hk]; rfl) fun w1 hn hC => back_non hC m hw).mono ?_
      rintro e w' ⟨v, rfl, hv, hC, hn⟩
      exact ⟨v, rfl, takeR_no 220 (by unfold takeF; rw [if_neg h0, if_neg e8, if_pos e4]; show takeF.backF _ m = _; unfold takeF.backF; rw [if_neg (by rw [hw]; decide)]) hv hC hn⟩
  | some gx =>
    by_cases hg : gx.num = m.line
    · refine (take_ret H m hck hdn (f := 51) Try.func51 nm51 rfl (by rw [hk]; rfl) fun w1 hO hC => (back_g hC m hg).mono (by rintro e w' ⟨v, rfl, A, c, hv, hO, hA, hn⟩; exact ⟨v, rfl, A, c, hv, hO, hA, Fp, hC.new hn, hn.mono fun _ _ h => h.elim, fun g hg => .inl hg⟩)).mono ?_
      rintro e w' ⟨v, rfl, hv⟩
      exact ⟨v, rfl, takeR_ok (by unfold takeF; rw [if_neg h0, if_neg e8, if_pos e4]; show (if gx.num = m.line then _ else _) = _; rw [if_pos hg]) hv⟩
    · cases hw : writesB (stateOf L m.line) with
      | true =>
        refine (take_ret H m hck hdn (f := 51) Try.func51 nm51 rfl (by rw [hk]; rfl) fun w1 hO hC => back_dg hC m hg hw h44).mono ?_
        rintro e w' ⟨v, rfl, hv⟩
        exact ⟨v, rfl, takeR_ok (by unfold takeF; rw [if_neg h0, if_neg e8, if_pos e4]; show (if gx.num = m.line then _ else _) = _; rw [if_neg hg]; show takeF.backF _ m = _; unfold takeF.backF; rw [if_pos hw, if_neg h44]) hv⟩
      | false =>
        refine (take_pan H m hck hdn (f := 51) Try.func51 nm51 rfl (by rw [hk]; rfl) fun w1 hn hC => back_nog hC m hg hw).mono ?_
        rintro e w' ⟨v, rfl, hv, hC, hn⟩
        exact ⟨v, rfl, takeR_no 220 (by unfold takeF; rw [if_neg h0, if_neg e8, if_pos e4]; show (if gx.num = m.line then _ else _) = _; rw [if_neg hg]; show takeF.backF _ m = _; unfold takeF.backF; rw [if_neg (by rw [hw]; decide)]) hv hC hn⟩
theorem take_8 {w : World} {Fp : Nat → Prop} {b : Nat} {id : Int} {n : Nat} {ways : Int} {L : List Ln} {ask : Option (Int × Bool)} {giv : Option Ln} (H : CacheAt w Fp b ⟨id, n, ways, L, ask, giv⟩) (m : Msg) (hck : chk m = 0) (hdn : m.dst = id) (hk : m.kind = 8) (hroom : dataOk ⟨id, n, ways, L, ask, giv⟩ m = true → putE n ways L (dataLn m) = 0) : Calls Try.prog 14 #[.pointer (some ⟨b, 0, none⟩), .agg (msgE.arr m)] w (Ret fun v w' => TakeR w Fp b (takeF ⟨id, n, ways, L, ask, giv⟩ m) v w') := by
  have h0 : ¬ (chk m ≠ 0 ∨ m.dst ≠ id) := fun h => h.elim (fun h => h hck) (fun h => h hdn)
  have e8 : m.kind = 8 ∨ m.kind = 9 ∨ m.kind = 10 := by omega
  have hl : dataLn m = mkL m.line 1 m.bs m.hn := by unfold dataLn; rw [if_pos hk]
  rcases ask with _ | ⟨al, aw⟩
  · refine (take_pan H m hck hdn (f := 50) Try.func50 nm50 rfl (by rw [hk]; rfl) fun w1 hn hC => data_none hC m).mono ?_
    rintro e w' ⟨v, rfl, hv, hC, hn⟩
    exact ⟨v, rfl, takeR_no 220 (by unfold takeF; rw [if_neg h0, if_pos e8, if_neg (fun h => by have h9 := h.1; simp [dataOk] at h9)]) hv hC hn⟩
  · by_cases ha : al = m.line
    · cases hw : (aw == decide (m.kind = 10)) with
      | false =>
        refine (take_pan H m hck hdn (f := 50) Try.func50 nm50 rfl (by rw [hk]; rfl) fun w1 hn hC => data_w hC m ha hw).mono ?_
        rintro e w' ⟨v, rfl, hv, hC, hn⟩
        exact ⟨v, rfl, takeR_no 220 (by unfold takeF; rw [if_neg h0, if_pos e8, if_neg (fun h => by have h9 : (decide (al = m.line) && (aw == decide (m.kind = 10))) = true := h.1; rw [hw] at h9; simp at h9)]) hv hC hn⟩
      | true =>
        have hdk : dataOk ⟨id, n, ways, L, some (al, aw), giv⟩ m = true := by show (decide (al = m.line) && (aw == decide (m.kind = 10))) = true; rw [decide_eq_true ha, hw]; rfl
        have hp := hroom hdk
        have hp2 := hp
        rw [hl] at hp2
        have hw8 : (aw == false) = true := by have h9 := hw; rw [hk] at h9; simpa using h9
        refine (take_ret H m hck hdn (f := 50) Try.func50 nm50 rfl (by rw [hk]; rfl) fun w1 hO hC => data_s hC m ha hw8 hk hp2).mono ?_
        rintro e w' ⟨v, rfl, hv⟩
        exact ⟨v, rfl, takeR_ok (by unfold takeF; rw [if_neg h0, if_pos e8, if_pos ⟨hdk, hp⟩, hl]) hv⟩
    · refine (take_pan H m hck hdn (f := 50) Try.func50 nm50 rfl (by rw [hk]; rfl) fun w1 hn hC => data_ne hC m ha).mono ?_
      rintro e w' ⟨v, rfl, hv, hC, hn⟩
      exact ⟨v, rfl, takeR_no 220 (by unfold takeF; rw [if_neg h0, if_pos e8, if_neg (fun h => by have h9 := h.1; simp [dataOk, ha] at h9)]) hv hC hn⟩
theorem take_9 {w : World} {Fp : Nat → Prop} {b : Nat} {id : Int} {n : Nat} {ways : Int} {L : List Ln} {ask : Option (Int × Bool)} {giv : Option Ln} (H : CacheAt w Fp b ⟨id, n, ways, L, ask, giv⟩) (m : Msg) (hck : chk m = 0) (hdn : m.dst = id) (hk : m.kind = 9) (hroom : dataOk ⟨id, n, ways, L, ask, giv⟩ m = true → putE n ways L (dataLn m) = 0) : Calls Try.prog 14 #[.pointer (some ⟨b, 0, none⟩), .agg (msgE.arr m)] w (Ret fun v w' => TakeR w Fp b (takeF ⟨id, n, ways, L, ask, giv⟩ m) v w') := by
  have h0 : ¬ (chk m ≠ 0 ∨ m.dst ≠ id) := fun h => h.elim (fun h => h hck) (fun h => h hdn)
  have e8 : m.kind = 8 ∨ m.kind = 9 ∨ m.kind = 10 := by omega
  have h88 : ¬ m.kind = 8 := by omega
  have hl : dataLn m = mkL m.line 2 m.bs m.hn := by unfold dataLn; rw [if_neg h88]
  rcases ask with _ | ⟨al, aw⟩
  · refine (take_pan H m hck hdn (f := 50) Try.func50 nm50 rfl (by rw [hk]; rfl) fun w1 hn hC => data_none hC m).mono ?_
    rintro e w' ⟨v, rfl, hv, hC, hn⟩
    exact ⟨v, rfl, takeR_no 220 (by unfold takeF; rw [if_neg h0, if_pos e8, if_neg (fun h => by have h9 := h.1; simp [dataOk] at h9)]) hv hC hn⟩
  · by_cases ha : al = m.line
    · cases hw : (aw == decide (m.kind = 10)) with
      | false =>
        refine (take_pan H m hck hdn (f := 50) Try.func50 nm50 rfl (by rw [hk]; rfl) fun w1 hn hC => data_w hC m ha hw).mono ?_
        rintro e w' ⟨v, rfl, hv, hC, hn⟩
        exact ⟨v, rfl, takeR_no 220 (by unfold takeF; rw [if_neg h0, if_pos e8, if_neg (fun h => by have h9 : (decide (al = m.line) && (aw == decide (m.kind = 10))) = true := h.1; rw [hw] at h9; simp at h9)]) hv hC hn⟩
      | true =>
        have hdk : dataOk ⟨id, n, ways, L, some (al, aw), giv⟩ m = true := by show (decide (al = m.line) && (aw == decide (m.kind = 10))) = true; rw [decide_eq_true ha, hw]; rfl
        have hp := hroom hdk
        have hp2 := hp
        rw [hl] at hp2
        refine (take_ret H m hck hdn (f := 50) Try.func50 nm50 rfl (by rw [hk]; rfl) fun w1 hO hC => data_e hC m ha hw h88 hp2).mono ?_
        rintro e w' ⟨v, rfl, hv⟩
        exact ⟨v, rfl, takeR_ok (by unfold takeF; rw [if_neg h0, if_pos e8, if_pos ⟨hdk, hp⟩, hl]) hv⟩
    · refine (take_pan H m hck hdn (f := 50) Try.func50 nm50 rfl (by rw [hk]; rfl) fun w1 hn hC => data_ne hC m ha).mono ?_
      rintro e w' ⟨v, rfl, hv, hC, hn⟩
      exact ⟨v, rfl, takeR_no 220 (by unfold takeF; rw [if_neg h0, if_pos e8, if_neg (fun h => by have h9 := h.1; simp [dataOk, ha] at h9)]) hv hC hn⟩
theorem take_10 {w : World} {Fp : Nat → Prop} {b : Nat} {id : Int} {n : Nat} {ways : Int} {L : List Ln} {ask : Option (Int × Bool)} {giv : Option Ln} (H : CacheAt w Fp b ⟨id, n, ways, L, ask, giv⟩) (m : Msg) (hck : chk m = 0) (hdn : m.dst = id) (hk : m.kind = 10) (hroom : dataOk ⟨id, n, ways, L, ask, giv⟩ m = true → putE n ways L (dataLn m) = 0) : Calls Try.prog 14 #[.pointer (some ⟨b, 0, none⟩), .agg (msgE.arr m)] w (Ret fun v w' => TakeR w Fp b (takeF ⟨id, n, ways, L, ask, giv⟩ m) v w') := by
  have h0 : ¬ (chk m ≠ 0 ∨ m.dst ≠ id) := fun h => h.elim (fun h => h hck) (fun h => h hdn)
  have e8 : m.kind = 8 ∨ m.kind = 9 ∨ m.kind = 10 := by omega
  have h88 : ¬ m.kind = 8 := by omega
  have hl : dataLn m = mkL m.line 2 m.bs m.hn := by unfold dataLn; rw [if_neg h88]
  rcases ask with _ | ⟨al, aw⟩
  · refine (take_pan H m hck hdn (f := 50) Try.func50 nm50 rfl (by rw [hk]; rfl) fun w1 hn hC => data_none hC m).mono ?_
    rintro e w' ⟨v, rfl, hv, hC, hn⟩
    exact ⟨v, rfl, takeR_no 220 (by unfold takeF; rw [if_neg h0, if_pos e8, if_neg (fun h => by have h9 := h.1; simp [dataOk] at h9)]) hv hC hn⟩
  · by_cases ha : al = m.line
    · cases hw : (aw == decide (m.kind = 10)) with
      | false =>
        refine (take_pan H m hck hdn (f := 50) Try.func50 nm50 rfl (by rw [hk]; rfl) fun w1 hn hC => data_w hC m ha hw).mono ?_
        rintro e w' ⟨v, rfl, hv, hC, hn⟩
        exact ⟨v, rfl, takeR_no 220 (by unfold takeF; rw [if_neg h0, if_pos e8, if_neg (fun h => by have h9 : (decide (al = m.line) && (aw == decide (m.kind = 10))) = true := h.1; rw [hw] at h9; simp at h9)]) hv hC hn⟩
      | true =>
        have hdk : dataOk ⟨id, n, ways, L, some (al, aw), giv⟩ m = true := by show (decide (al = m.line) && (aw == decide (m.kind = 10))) = true; rw [decide_eq_true ha, hw]; rfl
        have hp := hroom hdk
        have hp2 := hp
        rw [hl] at hp2
        refine (take_ret H m hck hdn (f := 50) Try.func50 nm50 rfl (by rw [hk]; rfl) fun w1 hO hC => data_e hC m ha hw h88 hp2).mono ?_
        rintro e w' ⟨v, rfl, hv⟩
        exact ⟨v, rfl, takeR_ok (by unfold takeF; rw [if_neg h0, if_pos e8, if_pos ⟨hdk, hp⟩, hl]) hv⟩
    · refine (take_pan H m hck hdn (f := 50) Try.func50 nm50 rfl (by rw [hk]; rfl) fun w1 hn hC => data_ne hC m ha).mono ?_
      rintro e w' ⟨v, rfl, hv, hC, hn⟩
      exact ⟨v, rfl, takeR_no 220 (by unfold takeF; rw [if_neg h0, if_pos e8, if_neg (fun h => by have h9 := h.1; simp [dataOk, ha] at h9)]) hv hC hn⟩
theorem take_c {w : World} {Fp : Nat → Prop} {b : Nat} {id : Int} {n : Nat} {ways : Int} {L : List Ln} {ask : Option (Int × Bool)} {giv : Option Ln} (H : CacheAt w Fp b ⟨id, n, ways, L, ask, giv⟩) (m : Msg) (hid : 0 ≤ id ∧ id < 4) (hroom : dataOk ⟨id, n, ways, L, ask, giv⟩ m = true → putE n ways L (dataLn m) = 0) : Calls Try.prog 14 #[.pointer (some ⟨b, 0, none⟩), .agg (msgE.arr m)] w (Ret fun v w' => TakeR w Fp b (takeF ⟨id, n, ways, L, ask, giv⟩ m) v w') := by
  by_cases h1 : chk m ≠ 0
  · refine (take_a1 H m h1).mono ?_
    rintro e w' ⟨v, rfl, hv, hC, hn⟩
    exact ⟨v, rfl, takeR_no 2 (by unfold takeF; rw [if_pos (.inl h1)]) hv hC hn⟩
  by_cases h2 : m.dst ≠ id
  · refine (take_a2 H m h1 h2).mono ?_
    rintro e w' ⟨v, rfl, hv, hC, hn⟩
    exact ⟨v, rfl, takeR_no 2 (by unfold takeF; rw [if_pos (.inr h2)]) hv hC hn⟩
  have hck : chk m = 0 := Decidable.not_not.1 h1
  have hdn : m.dst = id := Decidable.not_not.1 h2
  have hc := chk_kind hck (by rw [hdn]; omega)
  unfold cacheK at hc
  simp only [Bool.or_eq_true, decide_eq_true_eq] at hc
  rcases hc with (((((hk | hk) | hk) | hk) | hk) | hk) | hk
  · exact take_4 H m hck hdn hk
  · exact take_5 H m hck hdn hk
  · exact take_6 H m hck hdn hk
  · exact take_7 H m hck hdn hk
  · exact take_8 H m hck hdn hk hroom
  · exact take_9 H m hck hdn hk hroom
  · exact take_10 H m hck hdn hk hroom
end Go.Proofs.Ytflnlmibkbojcaa
namespace Go.Proofs.Ytflnlmibkbojcaa
open Go.RowKit
def EvictR (w : World) (Fp : Nat → Prop) (b : Nat) (r : CD × List Msg) (v : Value) (w' : World) : Prop :=
  ∃ A' cap', v = .slice A' r.2.length cap' ∧ Own msgE w' A' cap' r.2 ∧ (∀ g, inA A' g → w.heap.size ≤ g) ∧ ∃ Fp', CacheAt w' Fp' b r.1 ∧ Only Fp w w' ∧ ∀ g, Fp' g → Fp g ∨ w.heap.size ≤ g
theorem evictR_no {w w' : World} {Fp : Nat → Prop} {b : Nat} {r : CD × List Msg} {d : CD} {v : Value} (hr : r = (d, [])) (hv : v = .slice none 0 0) (h : CacheAt w Fp b d) (hn : New w w') : EvictR w Fp b r v w' := by
  subst hr hv
  exact ⟨none, 0, rfl, Own.nil, fun g hg => absurd hg (apart_none g), Fp, h.new hn, hn.mono fun _ _ h => h.elim, fun g hg => .inl hg⟩
theorem evictR_ok {w w' : World} {Fp : Nat → Prop} {b : Nat} {r : CD × List Msg} {d2 : CD} {l : List Msg} {v : Value} (hr : r = (d2, l)) (h : ∃ A' cap', v = .slice A' l.length cap' ∧ Own msgE w' A' cap' l ∧ (∀ g, inA A' g → w.heap.size ≤ g) ∧ ∃ Fp', CacheAt w' Fp' b d2 ∧ Only Fp w w' ∧ ∀ g, Fp' g → Fp g ∨ w.heap.size ≤ g) : EvictR w Fp b r v w' := by
  subst hr
  exact h
theorem evict_c {w : World} {Fp : Nat → Prop} {b : Nat} {id : Int} {n : Nat} {ways : Int} {L : List Ln} {ask : Option (Int × Bool)} {giv : Option Ln} (H : CacheAt w Fp b ⟨id, n, ways, L, ask, giv⟩) (pick : Int) : Calls Try.prog 25 #[.pointer (some ⟨b, 0, none⟩), .int .i64 pick] w (Ret fun v w' => EvictR w Fp b (evictF ⟨id, n, ways, L, ask, giv⟩ pick) v w') := by
  by_cases h0 : L.length = 0
  · have hL : L = [] := List.length_eq_zero_iff.1 h0
    refine (evict_e H pick h0).mono ?_
    rintro e w' ⟨v, rfl, hv, hn⟩
    exact ⟨v, rfl, evictR_no (by unfold evictF; exact if_pos hL) hv H hn⟩
  have hne : ¬ L = [] := fun h => h0 (by rw [h]; rfl)
  have hal := allL_len H.bd.1 L
  have hr : evictF ⟨id, n, ways, L, ask, giv⟩ pick = ((outF ⟨id, n, ways, L, ask, giv⟩ ((allL n L).getD (pickAt pick (allL n L).length) ln0)).1, (outF ⟨id, n, ways, L, ask, giv⟩ ((allL n L).getD (pickAt pick (allL n L).length) ln0)).2.1) := by
    unfold evictF
    rw [if_neg hne]
    show ((outF ⟨id, n, ways, L, ask, giv⟩ ((allL n L).getD (pickAt pick L.length) ln0)).1, (outF ⟨id, n, ways, L, ask, giv⟩ ((allL n L).getD (pickAt pick L.length) ln0)).2.1) = _
    rw [show L.length = (allL n L).length from hal.symm]
  by_cases hx : ((allL n L).getD (pickAt pick (allL n L).length) ln0).state = 1
  · refine (evict_s H pick h0 hx).mono ?_
    rintro e w' ⟨v, rfl, hv⟩
    exact ⟨v, rfl, evictR_ok (by rw [hr]; unfold outF; rw [if_pos hx]) hv⟩
  cases giv with
  | none =>
    refine (evict_p H pick h0 hx).mono ?_
    rintro e w' ⟨v, rfl, hv⟩
    exact ⟨v, rfl, evictR_ok (by rw [hr]; unfold outF; rw [if_neg hx]) hv⟩
  | some gx =>
    refine (evict_b H pick h0 hx).mono ?_
    rintro e w' ⟨v, rfl, hv, hn⟩
    exact ⟨v, rfl, evictR_no (by rw [hr]; unfold outF; rw [if_neg hx]) hv H hn⟩
end Go.Proofs.Ytflnlmibkbojcaa
namespace Go.Proofs.Ytflnlmibkbojcaa
open Go.RowKit
theorem ask_rn {w : World} {Fp : Nat → Prop} {b : Nat} {id : Int} {n : Nat} {ways : Int} {L : List Ln} (H : CacheAt w Fp b ⟨id, n, ways, L, none, none⟩) (line : Int) (hln : 0 ≤ line ∧ line < 4294967296) (pick : Int) : Calls Try.prog 13 #[.pointer (some ⟨b, 0, none⟩), .int .u32 line, .bool false, .int .i64 pick] w (Ret fun v w' => TakeR w Fp b (askF ⟨id, n, ways, L, none, none⟩ line hln false pick) v w') := by
  have c1 : ¬ ((none : Option (Int × Bool)).isSome = true ∨ mine none line = true) := by simp [mine]
  by_cases hs : stateOf L line ≠ 0
  · refine (ask_trn H line hln pick hs).mono ?_
    rintro e w' ⟨v, rfl, hv9, hn⟩
    exact ⟨v, rfl, takeR_no 231 (by unfold askF; rw [if_neg c1, if_pos ⟨hs, .inl rfl⟩]) hv9 (H.new hn) hn⟩
  · have c2 : ¬ (stateOf L line ≠ 0 ∧ (false = false ∨ writesB (stateOf L line) = true)) := fun h => hs h.1
    cases hv : vicL n ways L line pick with
    | none =>
      refine (ask_nx0n H line hln pick false hs hv).mono ?_
      rintro e w' ⟨v, rfl, hv9⟩
      exact ⟨v, rfl, takeR_ok (by unfold askF; rw [if_neg c1, if_neg c2]; simp only [hv]) hv9⟩
    | some vx =>
      by_cases hx : vx.state = 1
      · refine (ask_sx0n H line hln pick false hs vx hv hx).mono ?_
        rintro e w' ⟨v, rfl, hv9⟩
        exact ⟨v, rfl, takeR_ok (by unfold askF; rw [if_neg c1, if_neg c2]; simp only [hv]; simp [outF, hx]) hv9⟩
      · refine (ask_px0n H line hln pick false hs vx hv hx).mono ?_
        rintro e w' ⟨v, rfl, hv9⟩
        exact ⟨v, rfl, takeR_ok (by unfold askF; rw [if_neg c1, if_neg c2]; simp only [hv]; simp [outF, hx]) hv9⟩
theorem ask_wn {w : World} {Fp : Nat → Prop} {b : Nat} {id : Int} {n : Nat} {ways : Int} {L : List Ln} (H : CacheAt w Fp b ⟨id, n, ways, L, none, none⟩) (line : Int) (hln : 0 ≤ line ∧ line < 4294967296) (pick : Int) : Calls Try.prog 13 #[.pointer (some ⟨b, 0, none⟩), .int .u32 line, .bool true, .int .i64 pick] w (Ret fun v w' => TakeR w Fp b (askF ⟨id, n, ways, L, none, none⟩ line hln true pick) v w') := by
  have c1 : ¬ ((none : Option (Int × Bool)).isSome = true ∨ mine none line = true) := by simp [mine]
  by_cases hs : stateOf L line ≠ 0
  · cases hw : writesB (stateOf L line) with
    | true =>
      refine (ask_twn H line hln pick hs hw).mono ?_
      rintro e w' ⟨v, rfl, hv9, hn⟩
      exact ⟨v, rfl, takeR_no 231 (by unfold askF; rw [if_neg c1, if_pos ⟨hs, .inr hw⟩]) hv9 (H.new hn) hn⟩
    | false =>
      have c2 : ¬ (stateOf L line ≠ 0 ∧ (true = false ∨ writesB (stateOf L line) = true)) := by simp [hw]
      cases hv : vicL n ways L line pick with
      | none =>
        refine (ask_nw1n H line hln pick hs hw hv).mono ?_
        rintro e w' ⟨v, rfl, hv9⟩
        exact ⟨v, rfl, takeR_ok (by unfold askF; rw [if_neg c1, if_neg c2]; simp only [hv]) hv9⟩
      | some vx =>
        by_cases hx : vx.state = 1
        · refine (ask_sw1n H line hln pick hs hw vx hv hx).mono ?_
          rintro e w' ⟨v, rfl, hv9⟩
          exact ⟨v, rfl, takeR_ok (by unfold askF; rw [if_neg c1, if_neg c2]; simp only [hv]; simp [outF, hx]) hv9⟩
        · refine (ask_pw1n H line hln pick hs hw vx hv hx).mono ?_
          rintro e w' ⟨v, rfl, hv9⟩
          exact ⟨v, rfl, takeR_ok (by unfold askF; rw [if_neg c1, if_neg c2]; simp only [hv]; simp [outF, hx]) hv9⟩
  · have c2 : ¬ (stateOf L line ≠ 0 ∧ (true = false ∨ writesB (stateOf L line) = true)) := fun h => hs h.1
    cases hv : vicL n ways L line pick with
    | none =>
      refine (ask_nx0n H line hln pick true hs hv).mono ?_
      rintro e w' ⟨v, rfl, hv9⟩
      exact ⟨v, rfl, takeR_ok (by unfold askF; rw [if_neg c1, if_neg c2]; simp only [hv]) hv9⟩
    | some vx =>
      by_cases hx : vx.state = 1
      · refine (ask_sx0n H line hln pick true hs vx hv hx).mono ?_
        rintro e w' ⟨v, rfl, hv9⟩
        exact ⟨v, rfl, takeR_ok (by unfold askF; rw [if_neg c1, if_neg c2]; simp only [hv]; simp [outF, hx]) hv9⟩
      · refine (ask_px0n H line hln pick true hs vx hv hx).mono ?_
        rintro e w' ⟨v, rfl, hv9⟩
        exact ⟨v, rfl, takeR_ok (by unfold askF; rw [if_neg c1, if_neg c2]; simp only [hv]; simp [outF, hx]) hv9⟩
theorem ask_rs {w : World} {Fp : Nat → Prop} {b : Nat} {id : Int} {n : Nat} {ways : Int} {L : List Ln} {gx : Ln} (H : CacheAt w Fp b ⟨id, n, ways, L, none, (some gx)⟩) (line : Int) (hln : 0 ≤ line ∧ line < 4294967296) (pick : Int) (hg : ¬ gx.num = line) : Calls Try.prog 13 #[.pointer (some ⟨b, 0, none⟩), .int .u32 line, .bool false, .int .i64 pick] w (Ret fun v w' => TakeR w Fp b (askF ⟨id, n, ways, L, none, (some gx)⟩ line hln false pick) v w') := by
  have c1 : ¬ ((none : Option (Int × Bool)).isSome = true ∨ mine (some gx) line = true) := by simp [mine, hg]
  by_cases hs : stateOf L line ≠ 0
  · refine (ask_trs H line hln pick hg hs).mono ?_
    rintro e w' ⟨v, rfl, hv9, hn⟩
    exact ⟨v, rfl, takeR_no 231 (by unfold askF; rw [if_neg c1, if_pos ⟨hs, .inl rfl⟩]) hv9 (H.new hn) hn⟩
  · have c2 : ¬ (stateOf L line ≠ 0 ∧ (false = false ∨ writesB (stateOf L line) = true)) := fun h => hs h.1
    cases hv : vicL n ways L line pick with
    | none =>
      refine (ask_nx0s H line hln pick hg false hs hv).mono ?_
      rintro e w' ⟨v, rfl, hv9⟩
      exact ⟨v, rfl, takeR_ok (by unfold askF; rw [if_neg c1, if_neg c2]; simp only [hv]) hv9⟩
    | some vx =>
      by_cases hx : vx.state = 1
      · refine (ask_sx0s H line hln pick hg false hs vx hv hx).mono ?_
        rintro e w' ⟨v, rfl, hv9⟩
        exact ⟨v, rfl, takeR_ok (by unfold askF; rw [if_neg c1, if_neg c2]; simp only [hv]; simp [outF, hx]) hv9⟩
      · refine (ask_bx0s H line hln pick hg false hs vx hv hx).mono ?_
        rintro e w' ⟨v, rfl, hv9, hn⟩
        exact ⟨v, rfl, takeR_no 230 (by unfold askF; rw [if_neg c1, if_neg c2]; simp only [hv]; simp [outF, hx]) hv9 (H.new hn) hn⟩
theorem ask_ws {w : World} {Fp : Nat → Prop} {b : Nat} {id : Int} {n : Nat} {ways : Int} {L : List Ln} {gx : Ln} (H : CacheAt w Fp b ⟨id, n, ways, L, none, (some gx)⟩) (line : Int) (hln : 0 ≤ line ∧ line < 4294967296) (pick : Int) (hg : ¬ gx.num = line) : Calls Try.prog 13 #[.pointer (some ⟨b, 0, none⟩), .int .u32 line, .bool true, .int .i64 pick] w (Ret fun v w' => TakeR w Fp b (askF ⟨id, n, ways, L, none, (some gx)⟩ line hln true pick) v w') := by
  have c1 : ¬ ((none : Option (Int × Bool)).isSome = true ∨ mine (some gx) line = true) := by simp [mine, hg]
  by_cases hs : stateOf L line ≠ 0
  · cases hw : writesB (stateOf L line) with
    | true =>
      refine (ask_tws H line hln pick hg hs hw).mono ?_
      rintro e w' ⟨v, rfl, hv9, hn⟩
      exact ⟨v, rfl, takeR_no 231 (by unfold askF; rw [if_neg c1, if_pos ⟨hs, .inr hw⟩]) hv9 (H.new hn) hn⟩
    | false =>
      have c2 : ¬ (stateOf L line ≠ 0 ∧ (true = false ∨ writesB (stateOf L line) = true)) := by simp [hw]
      cases hv : vicL n ways L line pick with
      | none =>
        refine (ask_nw1s H line hln pick hg hs hw hv).mono ?_
        rintro e w' ⟨v, rfl, hv9⟩
        exact ⟨v, rfl, takeR_ok (by unfold askF; rw [if_neg c1, if_neg c2]; simp only [hv]) hv9⟩
      | some vx =>
        by_cases hx : vx.state = 1
        · refine (ask_sw1s H line hln pick hg hs hw vx hv hx).mono ?_
          rintro e w' ⟨v, rfl, hv9⟩
          exact ⟨v, rfl, takeR_ok (by unfold askF; rw [if_neg c1, if_neg c2]; simp only [hv]; simp [outF, hx]) hv9⟩
        · refine (ask_bw1s H line hln pick hg hs hw vx hv hx).mono ?_
          rintro e w' ⟨v, rfl, hv9, hn⟩
          exact ⟨v, rfl, takeR_no 230 (by unfold askF; rw [if_neg c1, if_neg c2]; simp only [hv]; simp [outF, hx]) hv9 (H.new hn) hn⟩
  · have c2 : ¬ (stateOf L line ≠ 0 ∧ (true = false ∨ writesB (stateOf L line) = true)) := fun h => hs h.1
    cases hv : vicL n ways L line pick with
    | none =>
      refine (ask_nx0s H line hln pick hg true hs hv).mono ?_
      rintro e w' ⟨v, rfl, hv9⟩
      exact ⟨v, rfl, takeR_ok (by unfold askF; rw [if_neg c1, if_neg c2]; simp only [hv]) hv9⟩
    | some vx =>
      by_cases hx : vx.state = 1
      · refine (ask_sx0s H line hln pick hg true hs vx hv hx).mono ?_
        rintro e w' ⟨v, rfl, hv9⟩
        exact ⟨v, rfl, takeR_ok (by unfold askF; rw [if_neg c1, if_neg c2]; simp only [hv]; simp [outF, hx]) hv9⟩
      · refine (ask_bx0s H line hln pick hg true hs vx hv hx).mono ?_
        rintro e w' ⟨v, rfl, hv9, hn⟩
        exact ⟨v, rfl, takeR_no 230 (by unfold askF; rw [if_neg c1, if_neg c2]; simp only [hv]; simp [outF, hx]) hv9 (H.new hn) hn⟩
theorem ask_c {w : World} {Fp : Nat → Prop} {b : Nat} {id : Int} {n : Nat} {ways : Int} {L : List Ln} {ask : Option (Int × Bool)} {giv : Option Ln} (H : CacheAt w Fp b ⟨id, n, ways, L, ask, giv⟩) (line : Int) (hln : 0 ≤ line ∧ line < 4294967296) (pick : Int) (wr : Bool) : Calls Try.prog 13 #[.pointer (some ⟨b, 0, none⟩), .int .u32 line, .bool wr, .int .i64 pick] w (Ret fun v w' => TakeR w Fp b (askF ⟨id, n, ways, L, ask, giv⟩ line hln wr pick) v w') := by
  rcases ask with _ | ⟨al, aw⟩
  · rcases giv with _ | gx
    · cases wr
      · exact ask_rn H line hln pick
      · exact ask_wn H line hln pick
    · by_cases hg : gx.num = line
      · refine (ask_b2 H line hln pick hg wr).mono ?_
        rintro e w' ⟨v, rfl, hv9, hn⟩
        exact ⟨v, rfl, takeR_no 230 (by unfold askF; rw [if_pos (.inr (by simp [mine, hg]))]) hv9 (H.new hn) hn⟩
      · cases wr
        · exact ask_rs H line hln pick hg
        · exact ask_ws H line hln pick hg
  · refine (ask_b1 H line hln pick wr).mono ?_
    rintro e w' ⟨v, rfl, hv9, hn⟩
    exact ⟨v, rfl, takeR_no 230 (by unfold askF; rw [if_pos (.inl rfl)]) hv9 (H.new hn) hn⟩
end Go.Proofs.Ytflnlmibkbojcaa
namespace Go.Proofs.Ytflnlmibkbojcaa
open Go.RowKit
theorem place_no (addr : Int) (ha : 0 ≤ addr ∧ addr < 4294967296) (width : Int) (hw1 : ¬ width = 1) (hw2 : ¬ width = 2) (hw4 : ¬ width = 4) (w : World) : Calls Try.prog 54 #[.int .u32 addr, .int .i64 width] w (Ret fun v w' => v = .tuple #[.int .u32 (addr / 16), .int .i64 (addr % 16), .bool false] ∧ w' = w) := by
 refine Zen 32 Try.func54 ?_
 refine Zsr ?_
 refine Za ?_
 refine Za ?_
 refine Zan ?_
 refine Zsm ?_
 refine Zv (.bool false) (fun _ fr => x_eql rfl (fr.ev rfl) rfl (decide_eq_false hw1)) ?_
 refine Zmm ?_
 refine Zv (.bool false) (fun _ fr => x_eql rfl (fr.ev rfl) rfl (decide_eq_false hw2)) ?_
 refine Zpf ?_
 refine Zmm ?_
 refine Zv (.bool false) (fun _ fr => x_eql rfl (fr.ev rfl) rfl (decide_eq_false hw4)) ?_
 refine Zpf ?_
 refine Zm ?_
 refine Zss ?_
 refine Zss ?_
 refine Zss ?_
 refine Zpf ?_
 refine Zan ?_
 refine Zsm ?_
 refine Zv (.int .u32 (addr / 16)) (fun _ fr => x_quo rfl (fr.ev rfl) rfl (by decide) (u32q (by omega) (by decide))) ?_
 refine Zm ?_
 refine Zv (.int .u32 (addr % 16)) (fun _ fr => x_rem rfl (fr.ev rfl) rfl (by decide) (rem_nn (by omega))) ?_
 refine Zv _ (fun _ fr => x_convert Try.underlying32 Try.underlying3 rfl (fr.ev rfl) (i64w (r := addr % 16) rfl (by omega))) ?_
 refine Zm ?_
 refine Za ?_
 refine Za ?_
 refine Zar ?_
 refine Zre rfl [_, _, _] ⟨rfl, rfl, rfl, trivial⟩ ?_
 exact ⟨_, rfl, rfl, rfl⟩
theorem place_1 (addr : Int) (ha : 0 ≤ addr ∧ addr < 4294967296) (w : World) : Calls Try.prog 54 #[.int .u32 addr, .int .i64 1] w (Ret fun v w' => v = .tuple #[.int .u32 (addr / 16), .int .i64 (addr % 16), .bool (decide (addr % 1 = 0))] ∧ w' = w) := by
 refine Zen 32 Try.func54 ?_
 refine Zsr ?_
 refine Za ?_
 refine Za ?_
 refine Zan ?_
 refine Zsm ?_
 refine Zv (.bool true) (fun _ fr => x_eql rfl (fr.ev rfl) rfl rfl) ?_
 refine Zm ?_
 refine Zss ?_
 refine Zpt ?_
 refine Zm ?_
 refine Zss ?_
 refine Zpt ?_
 refine Zmm ?_
 refine Zm ?_
 refine Zv (.int .i64 1) (fun _ fr => x_max rfl (fr.ev rfl) rfl (r := 1) (by decide)) ?_
 refine Zv (.int .u32 1) (fun _ fr => x_convert Try.underlying3 Try.underlying32 rfl (fr.ev rfl) rfl) ?_
 refine Zv (.int .u32 (addr % 1)) (fun _ fr => x_rem rfl (fr.ev rfl) (fr.ev rfl) (by decide) (rem_nn (by omega))) ?_
 refine Zv _ (fun _ fr => x_eql rfl (fr.ev rfl) rfl rfl) ?_
 refine Zpt ?_
 refine Zan ?_
 refine Zsm ?_
 refine Zv (.int .u32 (addr / 16)) (fun _ fr => x_quo rfl (fr.ev rfl) rfl (by decide) (u32q (by omega) (by decide))) ?_
 refine Zm ?_
 refine Zv (.int .u32 (addr % 16)) (fun _ fr => x_rem rfl (fr.ev rfl) rfl (by decide) (rem_nn (by omega))) ?_
 refine Zv _ (fun _ fr => x_convert Try.underlying32 Try.underlying3 rfl (fr.ev rfl) (i64w (r := addr % 16) rfl (by omega))) ?_
 refine Zm ?_
 refine Za ?_
 refine Za ?_
 refine Zar ?_
 refine Zre rfl [_, _, _] ⟨rfl, rfl, rfl, trivial⟩ ?_
 exact ⟨_, rfl, rfl, rfl⟩
theorem place_2 (addr : Int) (ha : 0 ≤ addr ∧ addr < 4294967296) (w : World) : Calls Try.prog 54 #[.int .u32 addr, .int .i64 2] w (Ret fun v w' => v = .tuple #[.int .u32 (addr / 16), .int .i64 (addr % 16), .bool (decide (addr % 2 = 0))] ∧ w' = w) := by
 refine Zen 32 Try.func54 ?_
 refine Zsr ?_
 refine Za ?_
 refine Za ?_
 refine Zan ?_
 refine Zsm ?_
 refine Zv (.bool false) (fun _ fr => x_eql rfl (fr.ev rfl) rfl rfl) ?_
 refine Zmm ?_
 refine Zv (.bool true) (fun _ fr => x_eql rfl (fr.ev rfl) rfl rfl) ?_
 refine Zpf ?_
 refine Zm ?_
 refine Zss ?_
 refine Zpt ?_
 refine Zmm ?_
 refine Zm ?_
 refine Zv (.int .i64 2) (fun _ fr => x_max rfl (fr.ev rfl) rfl (r := 2) (by decide)) ?_
 refine Zv (.int .u32 2) (fun _ fr => x_convert Try.underlying3 Try.underlying32 rfl (fr.ev rfl) rfl) ?_
 refine Zv (.int .u32 (addr % 2)) (fun _ fr => x_rem rfl (fr.ev rfl) (fr.ev rfl) (by decide) (rem_nn (by omega))) ?_
 refine Zv _ (fun _ fr => x_eql rfl (fr.ev rfl) rfl rfl) ?_
 refine Zpt ?_
 refine Zan ?_
 refine Zsm ?_
 refine Zv (.int .u32 (addr / 16)) (fun _ fr => x_quo rfl (fr.ev rfl) rfl (by decide) (u32q (by omega) (by decide))) ?_
 refine Zm ?_
 refine Zv (.int .u32 (addr % 16)) (fun _ fr => x_rem rfl (fr.ev rfl) rfl (by decide) (rem_nn (by omega))) ?_
 refine Zv _ (fun _ fr => x_convert Try.underlying32 Try.underlying3 rfl (fr.ev rfl) (i64w (r := addr % 16) rfl (by omega))) ?_
 refine Zm ?_
 refine Za ?_
 refine Za ?_
 refine Zar ?_
 refine Zre rfl [_, _, _] ⟨rfl, rfl, rfl, trivial⟩ ?_
 exact ⟨_, rfl, rfl, rfl⟩
theorem place_4 (addr : Int) (ha : 0 ≤ addr ∧ addr < 4294967296) (w : World) : Calls Try.prog 54 #[.int .u32 addr, .int .i64 4] w (Ret fun v w' => v = .tuple #[.int .u32 (addr / 16), .int .i64 (addr % 16), .bool (decide (addr % 4 = 0))] ∧ w' = w) := by
 refine Zen 32 Try.func54 ?_
 refine Zsr ?_
 refine Za ?_
 refine Za ?_
 refine Zan ?_
 refine Zsm ?_
 refine Zv (.bool false) (fun _ fr => x_eql rfl (fr.ev rfl) rfl rfl) ?_
 refine Zmm ?_
 refine Zv (.bool false) (fun _ fr => x_eql rfl (fr.ev rfl) rfl rfl) ?_
 refine Zpf ?_
 refine Zmm ?_
 refine Zv (.bool true) (fun _ fr => x_eql rfl (fr.ev rfl) rfl rfl) ?_
 refine Zpf ?_
 refine Zmm ?_
 refine Zm ?_
 refine Zv (.int .i64 4) (fun _ fr => x_max rfl (fr.ev rfl) rfl (r := 4) (by decide)) ?_
 refine Zv (.int .u32 4) (fun _ fr => x_convert Try.underlying3 Try.underlying32 rfl (fr.ev rfl) rfl) ?_
 refine Zv (.int .u32 (addr % 4)) (fun _ fr => x_rem rfl (fr.ev rfl) (fr.ev rfl) (by decide) (rem_nn (by omega))) ?_
 refine Zv _ (fun _ fr => x_eql rfl (fr.ev rfl) rfl rfl) ?_
 refine Zpt ?_
 refine Zan ?_
 refine Zsm ?_
 refine Zv (.int .u32 (addr / 16)) (fun _ fr => x_quo rfl (fr.ev rfl) rfl (by decide) (u32q (by omega) (by decide))) ?_
 refine Zm ?_
 refine Zv (.int .u32 (addr % 16)) (fun _ fr => x_rem rfl (fr.ev rfl) rfl (by decide) (rem_nn (by omega))) ?_
 refine Zv _ (fun _ fr => x_convert Try.underlying32 Try.underlying3 rfl (fr.ev rfl) (i64w (r := addr % 16) rfl (by omega))) ?_
 refine Zm ?_
 refine Za ?_
 refine Za ?_
 refine Zar ?_
 refine Zre rfl [_, _, _] ⟨rfl, rfl, rfl, trivial⟩ ?_
 exact ⟨_, rfl, rfl, rfl⟩
end Go.Proofs.Ytflnlmibkbojcaa
namespace Go.Proofs.Ytflnlmibkbojcaa
open Go.RowKit
def rdI (bs : List Int) (p : Nat) : Nat → Int
  | 0 => 0
  | i + 1 => rdI bs p i + bs.getD (p + i) 0 * 256 ^ i
def wrL (bs : List Int) (p : Nat) (v : Int) : Nat → List Int
  | 0 => bs
  | i + 1 => (wrL bs p v i).set (p + i) (v / 256 ^ i % 256)
theorem getD_bd {l : List Int} (h : ∀ a ∈ l, 0 ≤ a ∧ a < 256) (j : Nat) : 0 ≤ l.getD j 0 ∧ l.getD j 0 < 256 := by
  by_cases hj : j < l.length
  · have e : l.getD j 0 = l[j] := by simp [List.getD, hj]
    rw [e]
    exact h _ (List.getElem_mem hj)
  · have e : l.getD j 0 = 0 := by simp [List.getD, List.getElem?_eq_none (show l.length ≤ j by omega)]
    rw [e]
    omega
theorem rdI_bd {l : List Int} (h : ∀ a ∈ l, 0 ≤ a ∧ a < 256) (p : Nat) : ∀ i, 0 ≤ rdI l p i ∧ rdI l p i < 256 ^ i
  | 0 => by simp [rdI]
  | i + 1 => by
    have h1 := rdI_bd h p i
    have h2 := getD_bd h (p + i)
    have h3 : (0 : Int) < 256 ^ i := Int.pow_pos (by decide)
    simp only [rdI]
    rw [Int.pow_succ]
    have h4 : 0 ≤ l.getD (p + i) 0 * 256 ^ i := Int.mul_nonneg h2.1 (by omega)
    have h5 : l.getD (p + i) 0 * 256 ^ i ≤ 255 * 256 ^ i := Int.mul_le_mul_of_nonneg_right (by omega) (by omega)
    omega
theorem wrL_len (bs : List Int) (p : Nat) (v : Int) : ∀ i, (wrL bs p v i).length = bs.length
  | 0 => rfl
  | i + 1 => by rw [wrL, List.length_set, wrL_len]
theorem wrL_bd {bs : List Int} (h : ∀ a ∈ bs, 0 ≤ a ∧ a < 256) (p : Nat) (v : Int) : ∀ i, ∀ a ∈ wrL bs p v i, 0 ≤ a ∧ a < 256
  | 0 => h
  | i + 1 => fun a ha => by
    rcases List.mem_or_eq_of_mem_set ha with ha | rfl
    · exact wrL_bd h p v i a ha
    · have h1 := Int.emod_nonneg (v / 256 ^ i) (show (256 : Int) ≠ 0 by decide)
      have h2 := Int.emod_lt_of_pos (v / 256 ^ i) (show (0 : Int) < 256 by decide)
      omega
def wrB (b : B16) (p : Nat) (v : Int) (i : Nat) : B16 := ⟨wrL b.1 p v i, by rw [wrL_len]; exact b.2.1, wrL_bd b.2.2 p v i⟩
theorem or_hi {m q : Nat} {j : Nat} (h : m < 2 ^ j) : m ||| q * 2 ^ j = m + q * 2 ^ j := by
  rw [Nat.or_comm, ← Nat.shiftLeft_eq, ← Nat.shiftLeft_add_eq_or_of_lt h, Nat.add_comm]
theorem rd_or (b : B16) (p j : Nat) (hj : j < 4) : IntKind.u32.wrap (BitVec.ofInt IntKind.u32.bits (rdI b.1 p j) ||| BitVec.ofInt IntKind.u32.bits (b.1.getD (p + j) 0 * 256 ^ j)).toNat = rdI b.1 p (j + 1) := by
  have h1 := rdI_bd b.2.2 p j
  have h2 := getD_bd b.2.2 (p + j)
  have h3 := rdI_bd b.2.2 p (j + 1)
  have e0 : rdI b.1 p (j + 1) = rdI b.1 p j + b.1.getD (p + j) 0 * 256 ^ j := rfl
  rw [e0] at h3 ⊢
  obtain ⟨m, hm⟩ := Int.eq_ofNat_of_zero_le h1.1
  obtain ⟨q, hq⟩ := Int.eq_ofNat_of_zero_le h2.1
  rw [hm] at h1 h3 ⊢
  rw [hq] at h2 h3 ⊢
  have e1 : ((m : Nat) : Int) + ((q : Nat) : Int) * 256 ^ j = ((m + q * 2 ^ (8 * j) : Nat) : Int) := by
    push_cast
    rw [Int.pow_mul]
    rfl
  have e2 : ((q : Nat) : Int) * 256 ^ j = ((q * 2 ^ (8 * j) : Nat) : Int) := by
    push_cast
    rw [Int.pow_mul]
    rfl
  have hb : (256 : Int) ^ (j + 1) ≤ 4294967296 := by
    rcases (show j = 0 ∨ j = 1 ∨ j = 2 ∨ j = 3 by omega) with rfl | rfl | rfl | rfl <;> decide
  have hm8 : m < 2 ^ (8 * j) := by
    have : ((m : Nat) : Int) < ((2 ^ (8 * j) : Nat) : Int) := by
      push_cast
      rw [Int.pow_mul]
      exact h1.2
    omega
  rw [e1] at h3 ⊢
  rw [e2]
  show IntKind.u32.wrap ((BitVec.ofInt 32 ((m : Nat) : Int)) ||| (BitVec.ofInt 32 ((q * 2 ^ (8 * j) : Nat) : Int))).toNat = _
  rw [BitVec.ofInt_natCast, BitVec.ofInt_natCast, BitVec.toNat_or, BitVec.toNat_ofNat, BitVec.toNat_ofNat, Nat.mod_eq_of_lt (show m < 2 ^ 32 by omega), Nat.mod_eq_of_lt (show q * 2 ^ (8 * j) < 2 ^ 32 by omega), or_hi hm8]
  exact u32w rfl (by omega)
theorem sh_up {m : Int} {j : Nat} (hm : 0 ≤ m ∧ m < 256) (hj : j < 4) : IntKind.u32.wrap (m * 2 ^ min (((8 * j : Nat) : Int)).toNat IntKind.u32.bits) = m * 256 ^ j := by
  rcases (show j = 0 ∨ j = 1 ∨ j = 2 ∨ j = 3 by omega) with rfl | rfl | rfl | rfl
  all_goals
    simp [IntKind.bits]
    exact u32w rfl (by omega)
theorem sh_dn {m : Int} {j : Nat} (hj : j < 4) : m.fdiv (2 ^ min (((8 * j : Nat) : Int)).toNat IntKind.u32.bits) = m / 256 ^ j := by
  rcases (show j = 0 ∨ j = 1 ∨ j = 2 ∨ j = 3 by omega) with rfl | rfl | rfl | rfl
  all_goals
    simp [IntKind.bits]
    try exact Int.fdiv_eq_ediv_of_nonneg _ (by decide)
theorem ln_cell (x : Ln) {j : Nat} (hj : j < 16) : (lnE.arr x)[2 + j]? = some (.int .u8 (x.bs.1.getD j 0)) := by
  have hl := x.bs.2.1
  simp only [Enc.arr, List.getElem?_toArray]
  show (x.cells)[2 + j]? = _
  rw [Nat.add_comm]
  simp [Ln.cells, List.getD, List.getElem?_eq_getElem (show j < x.bs.1.length by omega)]
theorem ln_setb (x : Ln) (p i : Nat) (v : Int) (hj : p + i < 16) : (lnE.arr { x with bs := wrB x.bs p v i }).setIfInBounds (2 + (p + i)) (.int .u8 (v / 256 ^ i % 256)) = lnE.arr { x with bs := wrB x.bs p v (i + 1) } := by
  apply Array.toList_inj.1
  rw [Array.toList_setIfInBounds, Enc.toList, Enc.toList]
  show (Ln.cells _).set (2 + (p + i)) _ = Ln.cells _
  rw [Nat.add_comm 2]
  simp [Ln.cells, wrB, wrL, List.map_set]
def rightA (addr width : Int) : Bool := (decide (width = 1) || decide (width = 2) || decide (width = 4)) && decide (addr % width = 0)
theorem rightA_yes {addr width : Int} (ha : 0 ≤ addr) (h : rightA addr width = true) : 1 ≤ width ∧ width ≤ 4 ∧ addr % 16 + width ≤ 16 := by
  simp [rightA] at h
  obtain ⟨(h1 | h1) | h1, h2⟩ := h <;> subst h1 <;> omega
theorem place_c (addr width : Int) (ha : 0 ≤ addr ∧ addr < 4294967296) (w : World) : Calls Try.prog 54 #[.int .u32 addr, .int .i64 width] w (Ret fun v w' => v = .tuple #[.int .u32 (addr / 16), .int .i64 (addr % 16), .bool (rightA addr width)] ∧ w' = w) := by
  by_cases h1 : width = 1
  · subst h1
    refine (place_1 addr ha w).mono ?_
    rintro e w' ⟨v, rfl, rfl, rfl⟩
    exact ⟨_, rfl, by simp [rightA], rfl⟩
  by_cases h2 : width = 2
  · subst h2
    refine (place_2 addr ha w).mono ?_
    rintro e w' ⟨v, rfl, rfl, rfl⟩
    exact ⟨_, rfl, by simp [rightA], rfl⟩
  by_cases h4 : width = 4
  · subst h4
    refine (place_4 addr ha w).mono ?_
    rintro e w' ⟨v, rfl, rfl, rfl⟩
    exact ⟨_, rfl, by simp [rightA], rfl⟩
  refine (place_no addr ha width h1 h2 h4 w).mono ?_
  rintro e w' ⟨v, rfl, rfl, rfl⟩
  exact ⟨_, rfl, by simp [rightA, h1, h2, h4], rfl⟩
def readF (L : List Ln) (addr width : Int) : Int × Int :=
  if rightA addr width = false then (0, 2) else match getN L (addr / 16) with
    | none => (0, 232)
    | some x => (rdI x.bs.1 (addr % 16).toNat width.toNat, 0)
def wrLn (x : Ln) (addr width v : Int) : Ln := { x with bs := wrB x.bs (addr % 16).toNat v width.toNat, state := 3 }
def writeF (d : CD) (addr width v : Int) : CD × Int :=
  if rightA addr width = false then (d, 2) else if writesB (stateOf d.L (addr / 16)) = false then (d, 232)
  else ({ d with L := putL d.n d.ways d.L (wrLn ((getN d.L (addr / 16)).getD ln0) addr width v) }, 0)
theorem get_num {L : List Ln} {num : Int} {x : Ln} (h : getN L num = some x) : x.num = num := by
  have := List.find?_some h
  simpa [isNum] using this
theorem w_there {L : List Ln} {num : Int} (h : writesB ((getN L num).getD ln0).state = true) : ∃ y, getN L num = some y ∧ (getN L num).getD ln0 = y := by
  cases hg : getN L num with
  | none => rw [hg] at h; exact absurd h (by decide)
  | some y => exact ⟨y, rfl, rfl⟩
theorem put_there {n : Nat} {ways : Int} {L : List Ln} {num : Int} (h : writesB ((getN L num).getD ln0).state = true) (x : Ln) (h1 : x.num = ((getN L num).getD ln0).num) (h2 : x.state = 3) : putE n ways L x = 0 := by
  obtain ⟨y, hy, hd⟩ := w_there h
  have hn : x.num = num := by rw [h1, hd]; exact get_num hy
  have ho : ¬ okS x = false := by simp [okS, h2]
  unfold putE
  rw [if_neg ho, if_neg (fun hh => by rw [hn, hy] at hh; cases hh.1)]
def WriteR (w : World) (Fp : Nat → Prop) (b : Nat) (r : CD × Int) (v : Value) (w' : World) : Prop :=
  v = .int .i64 r.2 ∧ ∃ Fp', CacheAt w' Fp' b r.1 ∧ Only Fp w w' ∧ ∀ g, Fp' g → Fp g ∨ w.heap.size ≤ g
theorem wr_no {w w' : World} {Fp : Nat → Prop} {b : Nat} {r : CD × Int} {d : CD} {e : Int} (hr : r = (d, e)) (h : CacheAt w Fp b d) (hn : New w w') : WriteR w Fp b r (.int .i64 e) w' := by
  subst hr
  exact ⟨rfl, Fp, h.new hn, hn.mono fun _ _ h => h.elim, fun g hg => .inl hg⟩
theorem wr_ok {w w' : World} {Fp : Nat → Prop} {b : Nat} {r : CD × Int} {d : CD} {e : Int} (hr : r = (d, e)) (Fp' : Nat → Prop) (h : CacheAt w' Fp' b d) (hO : Only Fp w w') (hi : ∀ g, Fp' g → Fp g ∨ w.heap.size ≤ g) : WriteR w Fp b r (.int .i64 e) w' := by
  subst hr
  exact ⟨rfl, Fp', h, hO, hi⟩
def HasRoom (n : Nat) (ways : Int) (L : List Ln) (num : Int) : Prop := getN L num = none → ((ofs n L (si n num)).length : Int) < ways
def RoomOk (d : CD) : Prop := ∀ l wr, d.ask = some (l, wr) → HasRoom d.n d.ways d.L l
end Go.Proofs.Ytflnlmibkbojcaa
namespace Go.Proofs.Ytflnlmibkbojcaa
open Go.RowKit
theorem read_c (addr : Int) (ha : 0 ≤ addr ∧ addr < 4294967296) (width : Int) {w : World} {b lb : Nat} {id : Int} {pa pg : Value} {FpL : Nat → Prop} {n : Nat} {ways : Int} {L : List Ln} (hB : Blk w b 83 #[.int .i64 id, .pointer (some ⟨lb, 0, none⟩), pa, pg]) (hL : LinesAt w FpL lb n ways L) (ap_FpL_b : ¬ FpL b)  : Calls Try.prog 17 #[.pointer (some ⟨b, 0, none⟩), .int .u32 addr, .int .i64 width] w (Ret fun v w' => v = .tuple #[.int .u32 (readF L addr width).1, .int .i64 (readF L addr width).2] ∧ New w w') := by
 obtain ⟨hn1, hn2, hw1, hw2⟩ := hL.bd
 have hF := Only.refl (fun _ => False) w
 refine Zen 55 Try.func17 ?_
 refine Zsr ?_
 refine Za ?_
 refine Zaq ?_
 refine Zsm ?_
 refine Zk cf43 (cnone_c hB) ?_
 rintro v w9 ⟨rfl, hw9⟩
 obtain rfl := hw9.symm
 refine Znf ?_
 refine Zkn ?_
 refine Zsm ?_
 refine Zm ?_
 refine Zk (args := #[.int .u32 addr, .int .i64 width]) cf54 (place_c addr width (by omega) _) ?_
 rintro v w9 ⟨rfl, hw9⟩
 obtain rfl := hw9.symm
 refine Zm ?_
 refine Ztt ?_
 refine Zt ?_
 refine Za ?_
 refine Za ?_
 refine Zaq ?_
 refine Zsm ?_
 refine Zv _ (fun _ fr => x_not rfl (fr.ev rfl) rfl) ?_
 refine Znn ?_
 refine Zcd (fun hc5 => ?_) (fun hc5 => ?_)
 ·refine Zsr ?_
  refine Za ?_
  refine Zar ?_
  refine Zr1 ?_
  refine Zre rfl [_, _] ⟨rfl, rfl, trivial⟩ ?_
  have hq : readF L addr width = (0, 2) := by unfold readF; rw [if_pos (by simpa using hc5)]
  rw [hq]
  exact ⟨_, rfl, rfl, hF⟩
 ·refine Zkn ?_
  refine Zsq ?_
  have hrt : rightA addr width = true := by simpa using hc5
  have hrd := rightA_yes (by omega) hrt
  refine Zgm ?_
  refine Zn ?_
  refine Zf fo83_1 ?_
  refine Zd pl79 (hB.cell 1 rfl) ?_
  refine Zm ?_
  refine Zk (args := #[.pointer (some ⟨lb, 0, none⟩), .int .u32 (addr / 16)]) cf55 (find_c (addr / 16) (by omega) hL) ?_
  rintro v w6 ⟨rfl, hN7⟩
  refine Zm ?_
  refine Ztt ?_
  refine Zna (z := zv1) (cs := lnE.arr ln0) (by kernel_rfl) fun b8 w9 hN10 B11 hb12 => ?_
  replace hB := hB.new hN7
  have ne_b_b8 := nelt hB.lt hb12
  replace hL := hL.new hN7
  have ap_FpL_b8 := hL.apart hb12
  replace hF := hF.trNew hN7
  have g_b8 := hF.sz hb12
  refine ZsS sz39 (lnE.all _) B11 (lnE.size _) (lnE.size _) fun w13 hO14 B11 => ?_
  refine Zaq ?_
  refine Zsm ?_
  refine Zv _ (fun _ fr => x_not rfl (fr.ev rfl) rfl) ?_
  refine Znn ?_
  refine Zcd (fun hc15 => ?_) (fun hc15 => ?_)
  ·refine Zsr ?_
   refine Za ?_
   refine Zar ?_
   refine Zr1 ?_
   refine Zre rfl [_, _] ⟨rfl, rfl, trivial⟩ ?_
   have hnr : ¬ rightA addr width = false := by rw [hrt]; decide
   have hq : readF L addr width = (0, 232) := by unfold readF; rw [if_neg hnr]; cases hg : getN L (addr / 16) with
   | none => rfl
   | some x => simp [hg] at hc15
   rw [hq]
   replace hF := (hF.trNew hN10).loc hO14 (.inr g_b8)
   exact ⟨_, rfl, rfl, hF⟩
  ·refine Zkn ?_
   refine Zsr ?_
   refine Zaq ?_
   refine Zsm ?_
   refine Zm ?_
   refine Znn ?_
   refine Zbl ?_
   intro a fr
   replace hB := (hB.new hN10).only hO14 ne_b_b8
   replace hL := (hL.new hN10).only hO14 (ne1P ap_FpL_b8)
   replace hF := (hF.trNew hN10).loc hO14 (.inr g_b8)
   refine fx_loop (fun nM a wL => ∃ j : Nat, nM = (width - j).toNat ∧ Fr (55, []) [(0, .pointer (some ⟨b, 0, none⟩)), (1, .int .u32 addr), (2, .int .i64 width), (8, .int .u32 (addr / 16)), (9, .int .i64 (addr % 16)), (11, .pointer (some ⟨b8, 0, none⟩)), (37, .int .i64 width), (13, .int .u32 (rdI ((getN L (addr / 16)).getD ln0).bs.1 (addr % 16).toNat j)), (38, .int .i64 ((j : Nat) : Int))] a ∧ Only (fun _ => False) w wL ∧ Blk wL b 83 #[.int .i64 id, .pointer (some ⟨lb, 0, none⟩), pa, pg] ∧ LinesAt wL FpL lb n ways L ∧ Blk wL b8 39 (lnE.arr ((getN L (addr / 16)).getD ln0)) ∧ ((j : Nat) : Int) ≤ width) (n0 := _) ⟨0, rfl, fr.sub ⟨rfl, rfl, rfl, rfl, rfl, rfl, rfl, rfl, rfl, trivial⟩, hF, hB, hL, B11, by omega⟩ ?_
   clear fr a
   rintro n17 a w16 ⟨j, rfl, fr, hF, hB, hL, B11, hj⟩
   revert a
   refine Zsr ?_
   refine Zv _ (fun _ fr => x_lss rfl (fr.ev rfl) (fr.ev rfl) rfl) ?_
   refine Znq ?_
   refine Zcd (fun hc18 => ?_) (fun hc18 => ?_)
   ·have hc18 := of_decide_eq_true hc18
    refine Zkn ?_
    refine Zsq ?_
    refine Zbl ?_
    refine Zsm ?_
    refine Zan ?_
    refine Zgm ?_
    refine Zmm ?_
    refine Zv _ (fun _ fr => x_add rfl (fr.ev rfl) (fr.ev rfl) (i64w (r := ((((addr % 16).toNat) + j : Nat) : Int)) (by omega) (by omega))) ?_
    refine Zf fo39_2 ?_
    refine Zv (.pointer (some ⟨b8, 2 + (((addr % 16).toNat) + j), none⟩)) (fun _ fr => x_indexArr Try.underlying22 sz16 rfl (fr.ev rfl) (fr.ev rfl) (by omega) (show 2 + (((addr % 16).toNat) + j) * 1 = 2 + (((addr % 16).toNat) + j) by omega)) ?_
    refine Zd (v := .int .u8 (((getN L (addr / 16)).getD ln0).bs.1.getD (((addr % 16).toNat) + j) 0)) pl5 (B11.cell _ (ln_cell ((getN L (addr / 16)).getD ln0) (j := ((addr % 16).toNat) + j) (by omega))) ?_
    refine Zv (.int .u32 (((getN L (addr / 16)).getD ln0).bs.1.getD (((addr % 16).toNat) + j) 0)) (fun _ fr => x_convert Try.underlying5 Try.underlying32 rfl (fr.ev rfl) (u32w (r := ((getN L (addr / 16)).getD ln0).bs.1.getD (((addr % 16).toNat) + j) 0) rfl (by have := getD_bd ((getN L (addr / 16)).getD ln0).bs.2.2 (((addr % 16).toNat) + j); omega))) ?_
    refine Zm ?_
    refine Zv _ (fun _ fr => x_mul rfl rfl (fr.ev rfl) (i64w (r := ((8 * j : Nat) : Int)) (by omega) (by omega))) ?_
    refine Zv (.int .u32 (((getN L (addr / 16)).getD ln0).bs.1.getD (((addr % 16).toNat) + j) 0 * 256 ^ j)) (fun _ fr => x_shl rfl (fr.ev rfl) (fr.ev rfl) (by omega) (sh_up (getD_bd ((getN L (addr / 16)).getD ln0).bs.2.2 (((addr % 16).toNat) + j)) (by omega))) ?_
    refine Zv (.int .u32 (rdI ((getN L (addr / 16)).getD ln0).bs.1 (addr % 16).toNat (j + 1))) (fun _ fr => x_or rfl (fr.ev rfl) (fr.ev rfl) (rd_or ((getN L (addr / 16)).getD ln0).bs (addr % 16).toNat j (by omega))) ?_
    refine Za ?_
    refine Znl ?_
    refine Zbn ?_
    refine Zrg ?_
    refine Zv _ (fun _ fr => x_add rfl (fr.ev rfl) rfl (i64w (r := ((j + 1 : Nat) : Int)) (by omega) (by omega))) ?_
    refine Zm ?_
    intro a fr
    refine wpList_nil ?_
    refine fx_next ?_
    exact ⟨_, by omega, (j + 1), rfl, fr.sub ⟨rfl, rfl, rfl, rfl, rfl, rfl, rfl, rfl, rfl, trivial⟩, hF, hB, hL, B11, by omega⟩
   ·have hc18 := of_decide_eq_false hc18
    refine Zex ?_
    refine Zxt ?_
    refine Zxt ?_
    refine Zxx ?_
    refine Znx ?_
    refine Zsm ?_
    refine Za ?_
    refine Zar ?_
    refine Zre rfl [_, _] ⟨rfl, rfl, trivial⟩ ?_
    have hnr : ¬ rightA addr width = false := by rw [hrt]; decide
    obtain rfl : j = width.toNat := by omega
    have hq : readF L addr width = (rdI ((getN L (addr / 16)).getD ln0).bs.1 (addr % 16).toNat width.toNat, 0) := by unfold readF; rw [if_neg hnr]; cases hg : getN L (addr / 16) with
    | none => simp [hg] at hc15
    | some x => rfl
    rw [hq]
    exact ⟨_, rfl, rfl, hF⟩
theorem write_a (addr : Int) (ha : 0 ≤ addr ∧ addr < 4294967296) (width : Int) {w : World} {Fp : Nat → Prop} {b : Nat} {id : Int} {n : Nat} {ways : Int} {L : List Ln} {ask : Option (Int × Bool)} {giv : Option Ln} (H : CacheAt w Fp b ⟨id, n, ways, L, ask, giv⟩) (value : Int) (hrt : rightA addr width = false)  : Calls Try.prog 15 #[.pointer (some ⟨b, 0, none⟩), .int .u32 addr, .int .i64 width, .int .u32 value] w (Ret fun v w' => WriteR w Fp b (writeF ⟨id, n, ways, L, ask, giv⟩ addr width value) v w') := by
 have H9 := H
 obtain ⟨lb, FpL, pa, pg, FpA, FpG, hB, hL, hA, hG, hP⟩ := H
 dsimp only at hB hL hA hG
 obtain ⟨hn1, hn2, hw1, hw2⟩ := hL.bd
 have hF := Only.refl (fun _ => False) w
 refine Zen 61 Try.func15 ?_
 refine Zsr ?_
 refine Zaq ?_
 refine Zsm ?_
 refine Zk cf43 (cnone_c hB) ?_
 rintro v w9 ⟨rfl, hw9⟩
 obtain rfl := hw9.symm
 refine Znf ?_
 refine Zkn ?_
 refine Zsm ?_
 refine Zm ?_
 refine Zk (args := #[.int .u32 addr, .int .i64 width]) cf54 (place_c addr width (by omega) _) ?_
 rintro v w9 ⟨rfl, hw9⟩
 obtain rfl := hw9.symm
 refine Zm ?_
 refine Ztt ?_
 refine Zt ?_
 refine Za ?_
 refine Za ?_
 refine Zaq ?_
 refine Zsq ?_
 intro a fr
 rw [hrt] at fr
 revert a
 refine Zgm ?_
 refine Zv (.bool true) (fun _ fr => x_not rfl (fr.ev rfl) rfl) ?_
 refine Znt ?_
 refine Zsr ?_
 refine Zar ?_
 refine Zr1 ?_
 refine Zre rfl [_] ⟨rfl, trivial⟩ ?_
 exact ⟨_, rfl, wr_no (by unfold writeF; rw [if_pos hrt]) H9 hF⟩
theorem write_m (addr : Int) (ha : 0 ≤ addr ∧ addr < 4294967296) (width : Int) {w : World} {Fp : Nat → Prop} {b : Nat} {id : Int} {n : Nat} {ways : Int} {L : List Ln} {ask : Option (Int × Bool)} {giv : Option Ln} (H : CacheAt w Fp b ⟨id, n, ways, L, ask, giv⟩) (value : Int) (hrt : rightA addr width = true) (hwt : writesB (stateOf L (addr / 16)) = false)  : Calls Try.prog 15 #[.pointer (some ⟨b, 0, none⟩), .int .u32 addr, .int .i64 width, .int .u32 value] w (Ret fun v w' => WriteR w Fp b (writeF ⟨id, n, ways, L, ask, giv⟩ addr width value) v w') := by
 have hwx : writesB (((getN L (addr / 16)).getD ln0).state) = false := hwt
 have H9 := H
 obtain ⟨lb, FpL, pa, pg, FpA, FpG, hB, hL, hA, hG, hP⟩ := H
 dsimp only at hB hL hA hG
 obtain ⟨hn1, hn2, hw1, hw2⟩ := hL.bd
 have hF := Only.refl (fun _ => False) w
 refine Zen 61 Try.func15 ?_
 refine Zsr ?_
 refine Zaq ?_
 refine Zsm ?_
 refine Zk cf43 (cnone_c hB) ?_
 rintro v w9 ⟨rfl, hw9⟩
 obtain rfl := hw9.symm
 refine Znf ?_
 refine Zkn ?_
 refine Zsm ?_
 refine Zm ?_
 refine Zk (args := #[.int .u32 addr, .int .i64 width]) cf54 (place_c addr width (by omega) _) ?_
 rintro v w9 ⟨rfl, hw9⟩
 obtain rfl := hw9.symm
 refine Zm ?_
 refine Ztt ?_
 refine Zt ?_
 refine Za ?_
 refine Za ?_
 refine Zaq ?_
 refine Zsq ?_
 intro a fr
 rw [hrt] at fr
 revert a
 refine Zgm ?_
 refine Zv (.bool false) (fun _ fr => x_not rfl (fr.ev rfl) rfl) ?_
 refine Znf ?_
 refine Zkn ?_
 refine Zsq ?_
 have hrd := rightA_yes (by omega) hrt
 refine Zgm ?_
 refine Zn ?_
 refine Zf fo83_1 ?_
 refine Zd pl79 (hB.cell 1 rfl) ?_
 refine Zm ?_
 refine Zk (args := #[.pointer (some ⟨lb, 0, none⟩), .int .u32 (addr / 16)]) cf55 (find_c (addr / 16) (by omega) hL) ?_
 rintro v w5 ⟨rfl, hN6⟩
 refine Zm ?_
 refine Ztt ?_
 refine Zna (z := zv1) (cs := lnE.arr ln0) (by kernel_rfl) fun b7 w8 hN9 B10 hb11 => ?_
 replace hF := hF.trNew hN6
 have g_b7 := hF.sz hb11
 refine ZsS sz39 (lnE.all _) B10 (lnE.size _) (lnE.size _) fun w12 hO13 B10 => ?_
 refine Zaq ?_
 refine Zsr ?_
 refine Zf fo39_1 ?_
 refine Zd (v := .int .i64 (((getN L (addr / 16)).getD ln0).state)) pl36 (B10.cell 1 rfl) ?_
 refine Zk cf44 (writes_c (((getN L (addr / 16)).getD ln0).state) _) ?_
 rintro v _ ⟨rfl, hw9⟩
 obtain rfl := hw9.symm
 intro a fr
 rw [hwx] at fr
 revert a
 refine Zv (.bool true) (fun _ fr => x_not rfl (fr.ev rfl) rfl) ?_
 refine Znt ?_
 refine Zsr ?_
 refine Zar ?_
 refine Zr1 ?_
 refine Zre rfl [_] ⟨rfl, trivial⟩ ?_
 replace hF := (hF.trNew hN9).loc hO13 (.inr g_b7)
 exact ⟨_, rfl, wr_no (by unfold writeF; rw [if_neg (by rw [hrt]; decide), if_pos hwt]) H9 hF⟩
theorem write_y (addr : Int) (ha : 0 ≤ addr ∧ addr < 4294967296) (width : Int) {w : World} {Fp : Nat → Prop} {b : Nat} {id : Int} {n : Nat} {ways : Int} {L : List Ln} {ask : Option (Int × Bool)} {giv : Option Ln} (H : CacheAt w Fp b ⟨id, n, ways, L, ask, giv⟩) (value : Int) (hrt : rightA addr width = true) (hwt : writesB (stateOf L (addr / 16)) = true)  : Calls Try.prog 15 #[.pointer (some ⟨b, 0, none⟩), .int .u32 addr, .int .i64 width, .int .u32 value] w (Ret fun v w' => WriteR w Fp b (writeF ⟨id, n, ways, L, ask, giv⟩ addr width value) v w') := by
 have hwx : writesB (((getN L (addr / 16)).getD ln0).state) = true := hwt
 have H9 := H
 obtain ⟨lb, FpL, pa, pg, FpA, FpG, hB, hL, hA, hG, hP⟩ := H
 dsimp only at hB hL hA hG
 have ap_FpL_b := hP.lb
 have ap_FpA_b := hP.ab
 have ap_FpG_b := hP.gb
 have ap2_FpL_FpA := hP.la
 have ap2_FpL_FpG := hP.lg
 have ap2_FpA_FpG := hP.ag
 obtain ⟨hn1, hn2, hw1, hw2⟩ := hL.bd
 have gA_FpL : ∀ g, FpL g → Fp g ∨ w.heap.size ≤ g := fun g hg => .inl ((hP.foot g).2 (.inr (.inl hg)))
 have gA_FpA : ∀ g, FpA g → Fp g ∨ w.heap.size ≤ g := fun g hg => .inl ((hP.foot g).2 (.inr (.inr (.inl hg))))
 have gA_FpG : ∀ g, FpG g → Fp g ∨ w.heap.size ≤ g := fun g hg => .inl ((hP.foot g).2 (.inr (.inr (.inr hg))))
 have hF := Only.refl (Fp) w
 refine Zen 61 Try.func15 ?_
 refine Zsr ?_
 refine Zaq ?_
 refine Zsm ?_
 refine Zk cf43 (cnone_c hB) ?_
 rintro v w9 ⟨rfl, hw9⟩
 obtain rfl := hw9.symm
 refine Znf ?_
 refine Zkn ?_
 refine Zsm ?_
 refine Zm ?_
 refine Zk (args := #[.int .u32 addr, .int .i64 width]) cf54 (place_c addr width (by omega) _) ?_
 rintro v w9 ⟨rfl, hw9⟩
 obtain rfl := hw9.symm
 refine Zm ?_
 refine Ztt ?_
 refine Zt ?_
 refine Za ?_
 refine Za ?_
 refine Zaq ?_
 refine Zsq ?_
 intro a fr
 rw [hrt] at fr
 revert a
 refine Zgm ?_
 refine Zv (.bool false) (fun _ fr => x_not rfl (fr.ev rfl) rfl) ?_
 refine Znf ?_
 refine Zkn ?_
 refine Zsq ?_
 have hrd := rightA_yes (by omega) hrt
 refine Zgm ?_
 refine Zn ?_
 refine Zf fo83_1 ?_
 refine Zd pl79 (hB.cell 1 rfl) ?_
 refine Zm ?_
 refine Zk (args := #[.pointer (some ⟨lb, 0, none⟩), .int .u32 (addr / 16)]) cf55 (find_c (addr / 16) (by omega) hL) ?_
 rintro v w5 ⟨rfl, hN6⟩
 refine Zm ?_
 refine Ztt ?_
 refine Zna (z := zv1) (cs := lnE.arr ln0) (by kernel_rfl) fun b7 w8 hN9 B10 hb11 => ?_
 replace hB := hB.new hN6
 have ne_b_b7 := nelt hB.lt hb11
 replace hL := hL.new hN6
 have ap_FpL_b7 := hL.apart hb11
 replace hA := hA.new hN6
 have ap_FpA_b7 := hA.apart hb11
 replace hG := hG.new hN6
 have ap_FpG_b7 := hG.apart hb11
 replace hF := hF.trNew hN6
 have g_b7 := hF.sz hb11
 refine ZsS sz39 (lnE.all _) B10 (lnE.size _) (lnE.size _) fun w12 hO13 B10 => ?_
 refine Zaq ?_
 refine Zsr ?_
 refine Zf fo39_1 ?_
 refine Zd (v := .int .i64 (((getN L (addr / 16)).getD ln0).state)) pl36 (B10.cell 1 rfl) ?_
 refine Zk cf44 (writes_c (((getN L (addr / 16)).getD ln0).state) _) ?_
 rintro v _ ⟨rfl, hw9⟩
 obtain rfl := hw9.symm
 intro a fr
 rw [hwx] at fr
 revert a
 refine Zv (.bool false) (fun _ fr => x_not rfl (fr.ev rfl) rfl) ?_
 refine Znf ?_
 refine Zkn ?_
 refine Zsq ?_
 refine Zsm ?_
 refine Zm ?_
 refine Znn ?_
 refine Zbl ?_
 intro a fr
 replace hB := (hB.new hN9).only hO13 ne_b_b7
 replace hL := (hL.new hN9).only hO13 (ne1P ap_FpL_b7)
 replace hA := (hA.new hN9).only hO13 (ne1P ap_FpA_b7)
 replace hG := (hG.new hN9).only hO13 (ne1P ap_FpG_b7)
 replace hF := (hF.trNew hN9).loc hO13 (.inr g_b7)
 refine fx_loop (fun nM a wL => ∃ j : Nat, nM = (width - j).toNat ∧ Fr (61, []) [(0, .pointer (some ⟨b, 0, none⟩)), (1, .int .u32 addr), (2, .int .i64 width), (3, .int .u32 value), (9, .int .u32 (addr / 16)), (10, .int .i64 (addr % 16)), (12, .pointer (some ⟨b7, 0, none⟩)), (39, .int .i64 width), (40, .int .i64 ((j : Nat) : Int))] a ∧ Only (Fp) w wL ∧ Blk wL b 83 #[.int .i64 id, .pointer (some ⟨lb, 0, none⟩), pa, pg] ∧ LinesAt wL FpL lb n ways L ∧ AskAt wL FpA pa ask ∧ GivAt wL FpG pg giv ∧ Blk wL b7 39 (lnE.arr { ((getN L (addr / 16)).getD ln0) with bs := wrB ((getN L (addr / 16)).getD ln0).bs (addr % 16).toNat value j }) ∧ ((j : Nat) : Int) ≤ width) (n0 := _) ⟨0, rfl, fr.sub ⟨rfl, rfl, rfl, rfl, rfl, rfl, rfl, rfl, rfl, trivial⟩, hF, hB, hL, hA, hG, B10, by omega⟩ ?_
 clear fr a
 rintro n17 a w16 ⟨j, rfl, fr, hF, hB, hL, hA, hG, B10, hj⟩
 revert a
 refine Zsr ?_
 refine Zv _ (fun _ fr => x_lss rfl (fr.ev rfl) (fr.ev rfl) rfl) ?_
 refine Znq ?_
 refine Zcd (fun hc18 => ?_) (fun hc18 => ?_)
 ·have hc18 := of_decide_eq_true hc18
  refine Zkn ?_
  refine Zsq ?_
  refine Zbl ?_
  refine Zsm ?_
  refine Zan ?_
  refine Zgm ?_
  refine Zm ?_
  refine Zv _ (fun _ fr => x_add rfl (fr.ev rfl) (fr.ev rfl) (i64w (r := ((((addr % 16).toNat) + j : Nat) : Int)) (by omega) (by omega))) ?_
  refine Zmm ?_
  refine Zv _ (fun _ fr => x_mul rfl rfl (fr.ev rfl) (i64w (r := ((8 * j : Nat) : Int)) (by omega) (by omega))) ?_
  refine Zv (.int .u32 (value / 256 ^ j)) (fun _ fr => x_shr rfl (fr.ev rfl) (fr.ev rfl) (by omega) (sh_dn (by omega))) ?_
  refine Zv _ (fun _ fr => x_convert Try.underlying32 Try.underlying5 rfl (fr.ev rfl) (u8m _)) ?_
  refine Zf fo39_2 ?_
  refine Zv (.pointer (some ⟨b7, 2 + (((addr % 16).toNat) + j), none⟩)) (fun _ fr => x_indexArr Try.underlying22 sz16 rfl (fr.ev rfl) (fr.ev rfl) (by omega) (show 2 + (((addr % 16).toNat) + j) * 1 = 2 + (((addr % 16).toNat) + j) by omega)) ?_
  refine Zs1 (cs' := lnE.arr { ((getN L (addr / 16)).getD ln0) with bs := wrB ((getN L (addr / 16)).getD ln0).bs (addr % 16).toNat value (j + 1) }) sz5 B10 (by rw [lnE.size]; show _ < 18; omega) (ln_setb ((getN L (addr / 16)).getD ln0) (addr % 16).toNat j value (by omega)) fun w19 hO20 B10 => ?_
  refine Znl ?_
  refine Zbn ?_
  refine Zrg ?_
  refine Zv _ (fun _ fr => x_add rfl (fr.ev rfl) rfl (i64w (r := ((j + 1 : Nat) : Int)) (by omega) (by omega))) ?_
  refine Zm ?_
  intro a fr
  refine wpList_nil ?_
  refine fx_next ?_
  replace hB := hB.only hO20 ne_b_b7
  replace hL := hL.only hO20 (ne1P ap_FpL_b7)
  replace hA := hA.only hO20 (ne1P ap_FpA_b7)
  replace hG := hG.only hO20 (ne1P ap_FpG_b7)
  replace hF := hF.loc hO20 (.inr g_b7)
  exact ⟨_, by omega, (j + 1), rfl, fr.sub ⟨rfl, rfl, rfl, rfl, rfl, rfl, rfl, rfl, rfl, trivial⟩, hF, hB, hL, hA, hG, B10, by omega⟩
 ·have hc18 := of_decide_eq_false hc18
  refine Zex ?_
  refine Zxt ?_
  refine Zxt ?_
  refine Zxx ?_
  refine Znx ?_
  refine Zsr ?_
  refine Zf fo39_1 ?_
  refine Zs1 (cs' := lnE.arr { { ((getN L (addr / 16)).getD ln0) with bs := wrB ((getN L (addr / 16)).getD ln0).bs (addr % 16).toNat value j } with state := 3 }) sz36 B10 (by rw [lnE.size]; decide) (ln_setstate _ _) fun w21 hO22 B10 => ?_
  refine Znq ?_
  obtain rfl : j = width.toNat := by omega
  replace B10 : Blk w21 b7 39 (lnE.arr (wrLn ((getN L (addr / 16)).getD ln0) addr width value)) := B10
  have hpe := put_there (n := n) (ways := ways) hwx (wrLn ((getN L (addr / 16)).getD ln0) addr width value) rfl rfl
  have hxw := (wrLn ((getN L (addr / 16)).getD ln0) addr width value).hn
  refine ZhT (n := 6) 6 (fun w => Blk w b 83 #[.int .i64 id, .pointer (some ⟨lb, 0, none⟩), pa, pg] ∧ Blk w b7 39 (lnE.arr (wrLn ((getN L (addr / 16)).getD ln0) addr width value)) ∧ True) ?_
  intro w23 hN24
  replace hB := (hB.only hO22 ne_b_b7).new hN24
  replace B10 := B10.new hN24
  have hS9 := And.intro hB (And.intro B10 trivial)
  refine Zhm 0 hS9 ?_
  refine Zhc 1 hS9 ?_
  refine Zhf 2 fo83_1 hS9 ?_
  refine Zhl 3 pl79 hS9 (fun _ ⟨hB, _⟩ => (hB.cell 1 rfl)) ?_
  refine ZhE 4 lnE ag39 hS9 (fun _ ⟨_, B10, _⟩ => (B10.rangeE lnE)) ?_
  refine Zh1 5 ?_
  replace hL := (hL.only hO22 (ne1P ap_FpL_b7)).new hN24
  refine Zk cf56 (put_c (wrLn ((getN L (addr / 16)).getD ln0) addr width value) hL) ?_
  rintro v w28 ⟨rfl, Fp25, H26, hN29, mv27⟩
  have ap_Fp25_b : ¬ Fp25 b := moved_apartP mv27 ap_FpL_b hB.lt
  replace hA := (hA.only hO22 (ne1P ap_FpA_b7)).new hN24
  have ap2_Fp25_FpA : ∀ k, Fp25 k → FpA k → False := moved_apart2P mv27 ap2_FpL_FpA fun _ hg => hA.lt hg
  replace hG := (hG.only hO22 (ne1P ap_FpG_b7)).new hN24
  have ap2_Fp25_FpG : ∀ k, Fp25 k → FpG k → False := moved_apart2P mv27 ap2_FpL_FpG fun _ hg => hG.lt hg
  replace hF := (hF.loc hO22 (.inr g_b7)).trNew hN24
  have gA_Fp25 := gA_movedP hF mv27 gA_FpL
  clear hL
  intro a fr
  rw [hpe] at fr
  revert a
  replace hB := hB.only hN29 ap_FpL_b
  replace B10 := B10.only hN29 ap_FpL_b7
  refine Zhb ⟨hB, B10, trivial⟩ ?_
  refine Zhn ?_
  refine Ztl ?_
  refine Zar ?_
  refine Zre rfl [_] ⟨rfl, trivial⟩ ?_
  replace hA := hA.only hN29 (fun g h1 h2 => (symP ap2_FpL_FpA) g h1 h2)
  replace hG := hG.only hN29 (fun g h1 h2 => (symP ap2_FpL_FpG) g h1 h2)
  replace hF := hF.locP hN29 gA_FpL
  exact ⟨_, rfl, wr_ok (show writeF ⟨id, n, ways, L, ask, giv⟩ addr width value = (_, _) by unfold writeF; rw [if_neg (by rw [hrt]; decide), if_neg (by rw [hwt]; decide)]) (fun k => k = b ∨ Fp25 k ∨ FpA k ∨ FpG k) ⟨lb, Fp25, _, _, FpA, FpG, hB, H26, hA, hG, ⟨ap_Fp25_b, ap_FpA_b, ap_FpG_b, ap2_Fp25_FpA, ap2_Fp25_FpG, ap2_FpA_FpG, fun _ => Iff.rfl⟩⟩ hF (fun g hg => hg.elim (fun e => by rw [e]; exact .inl ((hP.foot b).2 (.inl rfl))) fun h => h.elim (gA_Fp25 g) fun h => h.elim (gA_FpA g) (gA_FpG g))⟩
theorem write_c (addr : Int) (ha : 0 ≤ addr ∧ addr < 4294967296) (width : Int) {w : World} {Fp : Nat → Prop} {b : Nat} {id : Int} {n : Nat} {ways : Int} {L : List Ln} {ask : Option (Int × Bool)} {giv : Option Ln} (H : CacheAt w Fp b ⟨id, n, ways, L, ask, giv⟩) (value : Int) : Calls Try.prog 15 #[.pointer (some ⟨b, 0, none⟩), .int .u32 addr, .int .i64 width, .int .u32 value] w (Ret fun v w' => WriteR w Fp b (writeF ⟨id, n, ways, L, ask, giv⟩ addr width value) v w') := by
  cases hr : rightA addr width with
  | false => exact write_a addr ha width H value hr
  | true => cases hw : writesB (stateOf L (addr / 16)) with
    | false => exact write_m addr ha width H value hr hw
    | true => exact write_y addr ha width H value hr hw
end Go.Proofs.Ytflnlmibkbojcaa
namespace Go.Proofs.Ytflnlmibkbojcaa
open Go.RowKit
section
variable {n : Nat} {ways : Int} {L : List Ln} {num k : Int} {x : Ln}
theorem mem_of_get (h : getN L num = some x) : x ∈ L := List.mem_of_find?_eq_some h
theorem drop_lt {l : List Ln} (h : ∃ y ∈ l, y.num = num) : (dropL l num).length < l.length := by
  unfold dropL
  induction l with
  | nil => obtain ⟨y, hy, _⟩ := h; cases hy
  | cons z r ih =>
    by_cases hz : z.num = num
    · rw [List.filter_cons_of_neg (by simp [isNum, hz])]
      have := List.length_filter_le (fun x => !isNum num x) r
      simp only [List.length_cons]
      omega
    · rw [List.filter_cons_of_pos (by simp [isNum, hz])]
      obtain ⟨y, hy, he⟩ := h
      rcases List.mem_cons.1 hy with rfl | hy
      · exact absurd he hz
      · have := ih ⟨y, hy, he⟩
        simp only [List.length_cons]
        omega
theorem get_drop : getN (dropL L k) num = if num = k then none else getN L num := by
  unfold getN dropL
  induction L with
  | nil => simp
  | cons z r ih =>
    by_cases hz : z.num = k
    · rw [List.filter_cons_of_neg (by simp [isNum, hz]), ih]
      by_cases hn : num = k
      · simp [hn]
      · have : isNum num z = false := by simp [isNum, hz]; exact fun e => hn e.symm
        simp [hn, List.find?, this]
    · rw [List.filter_cons_of_pos (by simp [isNum, hz])]
      by_cases hn : num = k
      · have : isNum num z = false := by simp [isNum, hn, hz]
        simp only [List.find?, this, ih]
        try simp [hn]
      · simp only [List.find?, ih, if_neg hn]
theorem get_repl (h : getN L x.num ≠ none) : getN (repl x L) num = if num = x.num then some x else getN L num := by
  unfold getN at *
  induction L with
  | nil => simp at h
  | cons z r ih =>
    by_cases hz : z.num = x.num
    · simp only [repl, if_pos hz]
      by_cases hn : num = x.num
      · simp [hn, List.find?, isNum]
      · have h1 : isNum num x = false := by simp [isNum]; exact fun e => hn e.symm
        have h2 : isNum num z = false := by simp [isNum, hz]; exact fun e => hn e.symm
        simp [hn, List.find?, h1, h2]
    · simp only [repl, if_neg hz]
      have h3 : isNum x.num z = false := by simp [isNum, hz]
      rw [List.find?, h3] at h
      by_cases hn : num = x.num
      · have : isNum num z = false := by simp [isNum, hn, hz]
        simp only [List.find?, this, ih h]
      · simp only [List.find?, ih h, if_neg hn]
theorem mem_ofs (h : x ∈ L) : x ∈ ofs n L (si n x.num) := List.mem_filter.2 ⟨h, by simp [inSet]⟩
theorem HasRoom.drop (hn : 0 < n) (hf : Fits n ways L) (h : HasRoom n ways L num) (k : Int) : HasRoom n ways (dropL L k) num := by
  intro h1
  rw [ofs_drop]
  have h2 := dropL_le (ofs n L (si n num)) k
  have h3 := hf _ (si_lt (num := num) hn)
  cases hg : getN L num with
  | none => have := h hg; omega
  | some y =>
    rw [get_drop, hg] at h1
    split at h1
    · rename_i e
      subst e
      have hy := get_num hg
      have := drop_lt (num := num) (l := ofs n L (si n num)) ⟨y, by have := mem_ofs (n := n) (mem_of_get hg); rwa [hy] at this, hy⟩
      omega
    · cases h1
theorem putL_there (h : getN L x.num ≠ none) (he : putE n ways L x = 0) : putL n ways L x = repl x L := by
  unfold putL
  rw [if_pos he, if_neg h]
theorem HasRoom.repl (h : HasRoom n ways L num) (hx : getN L x.num ≠ none) : HasRoom n ways (repl x L) num := by
  intro h1
  rw [get_repl hx] at h1
  split at h1
  · cases h1
  · by_cases e : si n num = si n x.num
    · rw [e, ofs_repl_same, repl_len, ← e]; exact h h1
    · rw [ofs_repl_other _ _ e]; exact h h1
theorem room_vic (h : vicL n ways L num k = none) : HasRoom n ways L num := by
  intro h1
  unfold vicL at h
  split at h
  · cases h
  · rename_i h2
    have : ¬ ways ≤ ((ofs n L (si n num)).length : Int) := fun h3 => h2 ⟨h1, h3⟩
    omega
theorem vic_mem (hw : 1 ≤ ways) (h : vicL n ways L num k = some x) : x ∈ ofs n L (si n num) ∧ getN L num = none ∧ ways ≤ ((ofs n L (si n num)).length : Int) := by
  unfold vicL at h
  split at h
  · rename_i h2
    cases h
    refine ⟨?_, h2⟩
    have hl : 0 < (ofs n L (si n num)).length := by omega
    have hp := pickAt_lt k _ hl
    simp [List.getD, hp]
  · cases h
theorem room_out (hn : 0 < n) (hw : 1 ≤ ways) (hf : Fits n ways L) (h : vicL n ways L num k = some x) : HasRoom n ways (dropL L x.num) num := by
  intro _
  obtain ⟨h1, h2, h3⟩ := vic_mem hw h
  rw [ofs_drop]
  have h4 := drop_lt (num := x.num) (l := ofs n L (si n num)) ⟨x, h1, rfl⟩
  have h5 := hf _ (si_lt (num := num) hn)
  omega
end
section
variable {d : CD} (hb : 0 < d.n ∧ d.n ≤ 64 ∧ 1 ≤ d.ways ∧ d.ways ≤ 8) (hf : Fits d.n d.ways d.L) (hr : RoomOk d)
include hf hr
theorem RoomOk.drop (hb : 0 < d.n ∧ d.n ≤ 64 ∧ 1 ≤ d.ways ∧ d.ways ≤ 8) (k : Int) (g : Option Ln) : RoomOk { d with L := dropL d.L k, giv := g } := fun l wr h => (hr l wr h).drop hb.1 hf k
include hb
omit hb hf in
theorem write_room (addr width v : Int) : RoomOk (writeF d addr width v).1 := by
  unfold writeF
  split
  · exact hr
  · split
    · exact hr
    · rename_i h
      have h : writesB ((getN d.L (addr / 16)).getD ln0).state = true := by simpa [stateOf] using h
      intro l wr hl
      have hx : getN d.L (wrLn ((getN d.L (addr / 16)).getD ln0) addr width v).num ≠ none := by
        obtain ⟨y, hy, hd⟩ := w_there h
        show getN d.L ((getN d.L (addr / 16)).getD ln0).num ≠ none
        rw [hd, get_num hy, hy]
        simp
      show HasRoom d.n d.ways (putL d.n d.ways d.L _) l
      rw [putL_there hx (put_there h _ rfl rfl)]
      exact (hr l wr hl).repl hx
theorem ask_room (line : Int) (hln : 0 ≤ line ∧ line < 4294967296) (wr : Bool) (pick : Int) : RoomOk (askF d line hln wr pick).1 := by
  unfold askF
  split
  · exact hr
  · split
    · exact hr
    · split
      · rename_i hv
        intro l w' h
        cases h
        exact room_vic hv
      · rename_i x hv
        split
        · intro l w' h
          cases h
          show HasRoom (outF d x).1.n (outF d x).1.ways (outF d x).1.L line
          rename_i ho
          unfold outF at ho ⊢
          split
          · exact room_out hb.1 hb.2.2.1 hf hv
          · split
            · rename_i h1 _ _ h2
              rw [if_neg h1] at ho
              simp [h2] at ho
            · exact room_out hb.1 hb.2.2.1 hf hv
        · exact hr
theorem back_room (m : Msg) : RoomOk (takeF.backF d m).1 := by
  unfold takeF.backF
  split
  · rename_i h
    have h : writesB ((getN d.L m.line).getD ln0).state = true := h
    obtain ⟨y, hy, hd⟩ := w_there h
    rw [hd]
    by_cases hk : m.kind = 4
    · simp only [hk, if_true]
      intro l w' hl
      have hx : getN d.L ({ y with state := 1 } : Ln).num ≠ none := by
        show getN d.L y.num ≠ none
        rw [get_num hy, hy]
        simp
      have hp : putE d.n d.ways d.L { y with state := 1 } = 0 := by
        unfold putE
        rw [if_neg (by simp [okS]), if_neg (fun hh => hx hh.1)]
      show HasRoom d.n d.ways (putL d.n d.ways d.L { y with state := 1 }) l
      rw [putL_there hx hp]
      exact (hr l w' hl).repl hx
    · simp only [if_neg hk]
      exact RoomOk.drop hf hr hb y.num d.giv
  · exact hr
theorem take_room (m : Msg) : RoomOk (takeF d m).1 := by
  unfold takeF
  split
  · exact hr
  split
  · split
    · intro l w' h
      cases h
    · exact hr
  split
  · split
    · split
      · exact hr
      · exact back_room hb hf hr m
    · exact back_room hb hf hr m
  split
  · split
    · exact hr
    · exact RoomOk.drop hf hr hb m.line d.giv
  split
  · exact fun l w' h => hr l w' h
  · exact hr
omit hb hf in
theorem data_room (m : Msg) (h : dataOk d m = true) : putE d.n d.ways d.L (dataLn m) = 0 := by
  unfold dataOk at h
  split at h
  · rename_i l wr ha
    simp only [Bool.and_eq_true, decide_eq_true_eq] at h
    have h1 := hr l wr ha
    rw [h.1] at h1
    have ho : ¬ okS (dataLn m) = false := by
      simp only [okS, dataLn, mkL]
      split <;> decide
    have h2 : (dataLn m).num = m.line := rfl
    unfold putE
    rw [if_neg ho, if_neg]
    rintro ⟨h3, h4⟩
    rw [h2] at h3 h4
    have := h1 h3
    omega
  · cases h
omit hf hr hb in
theorem new_room (id : Int) (n : Nat) (ways : Int) : RoomOk ⟨id, n, ways, [], none, none⟩ := fun l w' h => by cases h
end
end Go.Proofs.Ytflnlmibkbojcaa
namespace Go.Proofs.Ytflnlmibkbojcaa
open Go.RowKit
def StOk (L : List Ln) : Prop := ∀ x ∈ L, 1 ≤ x.state ∧ x.state ≤ 3
section
variable {n : Nat} {ways : Int} {L : List Ln} {x : Ln}
theorem StOk.nil : StOk [] := fun x h => by cases h
theorem StOk.drop (h : StOk L) (k : Int) : StOk (dropL L k) := fun x hx => h x (List.mem_filter.1 hx).1
theorem StOk.putL (h : StOk L) (x : Ln) : StOk (putL n ways L x) := by
  unfold Go.Proofs.Ytflnlmibkbojcaa.putL
  split
  · rename_i he
    have hx : 1 ≤ x.state ∧ x.state ≤ 3 := by
      unfold putE at he
      split at he
      · omega
      · rename_i h2
        simp [okS] at h2
        omega
    split
    · intro y hy
      rcases List.mem_append.1 hy with hy | hy
      · exact h y hy
      · rw [List.mem_singleton] at hy
        subst hy
        exact hx
    · intro y hy
      rcases mem_repl hy with hy | rfl
      · exact h y hy
      · exact hx
  · exact h
theorem st_of (h : StOk L) (num : Int) : stateOf L num = 0 ∧ getN L num = none ∨ (1 ≤ stateOf L num ∧ stateOf L num ≤ 3) ∧ ∃ y, getN L num = some y ∧ stateOf L num = y.state := by
  unfold stateOf
  cases hg : getN L num with
  | none => exact .inl ⟨rfl, rfl⟩
  | some y => exact .inr ⟨h y (mem_of_get hg), y, rfl, rfl⟩
end
structure DOk (d : CD) : Prop where
  id : 0 ≤ d.id ∧ d.id < 4
  bd : 0 < d.n ∧ d.n ≤ 64 ∧ 1 ≤ d.ways ∧ d.ways ≤ 8
  uniq : Uniq d.L
  fits : Fits d.n d.ways d.L
  room : RoomOk d
  st : StOk d.L
end Go.Proofs.Ytflnlmibkbojcaa
namespace Go.Proofs.Ytflnlmibkbojcaa
open Go.RowKit
section
variable {d : CD}
theorem DOk.new {id : Int} {n : Nat} {ways : Int} (hid : 0 ≤ id ∧ id < 4) (hb : 0 < n ∧ n ≤ 64 ∧ 1 ≤ ways ∧ ways ≤ 8) : DOk ⟨id, n, ways, [], none, none⟩ := ⟨hid, hb, List.Pairwise.nil, Fits.nil (by show 0 ≤ ways; omega), new_room id n ways, StOk.nil⟩
theorem DOk.drop (h : DOk d) (k : Int) (g : Option Ln) : DOk { d with L := dropL d.L k, giv := g } := ⟨h.id, h.bd, h.uniq.drop k, h.fits.drop k, RoomOk.drop h.fits h.room h.bd k g, h.st.drop k⟩
theorem DOk.out (h : DOk d) (x : Ln) : DOk (outF d x).1 := by
  unfold outF
  split
  · exact h.drop x.num d.giv
  · split
    · exact h
    · exact h.drop x.num (some x)
theorem DOk.evict (h : DOk d) (pick : Int) : DOk (evictF d pick).1 := by
  unfold evictF
  split
  · exact h
  · exact h.out _
theorem DOk.write (h : DOk d) (addr width v : Int) : DOk (writeF d addr width v).1 := by
  have hr := write_room h.room addr width v
  revert hr
  unfold writeF
  split
  · exact fun _ => h
  · split
    · exact fun _ => h
    · exact fun hr => ⟨h.id, h.bd, h.uniq.putL, h.fits.putL _, hr, h.st.putL _⟩
theorem DOk.ask (h : DOk d) (line : Int) (hl : 0 ≤ line ∧ line < 4294967296) (wr : Bool) (pick : Int) : DOk (askF d line hl wr pick).1 := by
  have hr := ask_room h.bd h.fits h.room line hl wr pick
  revert hr
  unfold askF
  split
  · exact fun _ => h
  · split
    · exact fun _ => h
    · split
      · exact fun hr => ⟨h.id, h.bd, h.uniq, h.fits, hr, h.st⟩
      · split
        · intro hr
          have ho := h.out ‹Ln›
          exact ⟨ho.id, ho.bd, ho.uniq, ho.fits, hr, ho.st⟩
        · exact fun _ => h
theorem DOk.back (h : DOk d) (m : Msg) : DOk (takeF.backF d m).1 := by
  have hr := back_room h.bd h.fits h.room m
  revert hr
  unfold takeF.backF
  split
  · by_cases k : m.kind = 4
    · simp only [k, if_true]
      exact fun hr => ⟨h.id, h.bd, h.uniq.putL, h.fits.putL _, hr, h.st.putL _⟩
    · simp only [if_neg k]
      exact fun _ => h.drop _ d.giv
  · exact fun _ => h
theorem DOk.take (h : DOk d) (m : Msg) : DOk (takeF d m).1 := by
  have hr := take_room h.bd h.fits h.room m
  revert hr
  unfold takeF
  split
  · exact fun _ => h
  split
  · split
    · exact fun hr => ⟨h.id, h.bd, h.uniq.putL, h.fits.putL _, hr, h.st.putL _⟩
    · exact fun _ => h
  split
  · split
    · split
      · exact fun _ => h
      · exact fun _ => h.back m
    · exact fun _ => h.back m
  split
  · split
    · exact fun _ => h
    · exact fun _ => h.drop m.line d.giv
  split
  · exact fun hr => ⟨h.id, h.bd, h.uniq, h.fits, hr, h.st⟩
  · exact fun _ => h
end
end Go.Proofs.Ytflnlmibkbojcaa
namespace Go.Proofs.Ytflnlmibkbojcaa
open Go.RowKit
def CacAt (w : World) (Fp : Nat → Prop) (b : Nat) (d : CD) : Prop := CacheAt w Fp b d ∧ DOk d
section
variable {w w' : World} {Fp T : Nat → Prop} {b D : Nat} {d : CD} {ask : Option (Int × Bool)} {giv : Option Ln} {p : Value}
theorem CacAt.only (h : CacAt w Fp b d) (k : Only T w w') (hs : ∀ g, Fp g → ¬ T g) : CacAt w' Fp b d := ⟨h.1.only k hs, h.2⟩
theorem CacAt.new (h : CacAt w Fp b d) (k : New w w') : CacAt w' Fp b d := ⟨h.1.new k, h.2⟩
theorem CacAt.lt (h : CacAt w Fp b d) {g : Nat} (hg : Fp g) : g < w.heap.size := h.1.lt hg
theorem CacAt.apart (h : CacAt w Fp b d) {c : Nat} (hc : w.heap.size ≤ c) : ¬ Fp c := h.1.apart hc
end
theorem own_tag {P : Program} {α : Type} [DecidableEq α] {E : Enc P α} {w : World} {A : Option Addr} {cap : Nat} {l : List α} (h : Own E w A cap l) {g : Nat} (hg : inA A g) : ∃ cs, Blk w g E.T cs := by
  obtain ⟨o, rfl⟩ := hg
  obtain ⟨_, _, ⟨h3, _⟩ | ⟨g', o', cs, h3, hB, _⟩⟩ := h
  · cases h3
  · simp only [Option.some.injEq, Addr.mk.injEq] at h3
    rw [h3.1]
    exact ⟨cs, hB⟩
theorem CacheAt.tag {w : World} {Fp : Nat → Prop} {b : Nat} {d : CD} (h : CacheAt w Fp b d) {g : Nat} (hg : Fp g) : ∃ t cs, t ≠ 35 ∧ Blk w g t cs := by
  obtain ⟨lb, FpL, pa, pg, FpA, FpG, hB, hL, hA, hG, hP⟩ := h
  rcases (hP.foot g).1 hg with rfl | hg | hg | hg
  · exact ⟨_, _, by decide, hB⟩
  · obtain ⟨S, FpR, rs, h1, h2, h3, h4⟩ := hL
    rcases (h4.foot g).1 hg with rfl | rfl | hg
    · exact ⟨_, _, by decide, h1⟩
    · exact ⟨_, _, by decide, h2⟩
    · obtain ⟨i, hi, hi2⟩ := (h3.foot g).1 hg
      obtain ⟨cs, hc⟩ := own_tag (h3.own hi) hi2
      exact ⟨_, cs, by decide, hc⟩
  · rcases ha : d.ask with _ | ⟨l, wr⟩
    · rw [ha] at hA
      exact absurd hg (hA.2 g)
    · rw [ha] at hA
      obtain ⟨ba, h1, h2, h3, h4⟩ := hA
      rw [(h3 g).1 hg]
      exact ⟨_, _, by decide, h2⟩
  · rcases ha : d.giv with _ | x
    · rw [ha] at hG
      exact absurd hg (hG.2 g)
    · rw [ha] at hG
      obtain ⟨bg, h1, h2, h3⟩ := hG
      rw [(h3 g).1 hg]
      exact ⟨_, _, by decide, h2⟩
theorem CacAt.msg_ap {w : World} {Fp : Nat → Prop} {b : Nat} {d : CD} (h : CacAt w Fp b d) {A : Option Addr} {cap : Nat} {l : List Msg} (hO : Own msgE w A cap l) : ∀ k, Fp k → inA A k → False := fun k h1 h2 => by
  obtain ⟨t, cs, ht, hB⟩ := h.1.tag h1
  obtain ⟨cs2, hB2⟩ := own_tag hO h2
  have := hB.symm.trans hB2
  simp only [Option.some.injEq, Obj.cells.injEq] at this
  exact ht this.2.1
def TakeU (w : World) (Fp : Nat → Prop) (b : Nat) (r : CD × List Msg × Int) (v : Value) (w' : World) : Prop :=
  ∃ A' cap', v = .tuple #[.slice A' r.2.1.length cap', .int .i64 r.2.2] ∧ Own msgE w' A' cap' r.2.1 ∧ (∀ g, inA A' g → w.heap.size ≤ g) ∧ ∃ Fp', CacAt w' Fp' b r.1 ∧ Only Fp w w' ∧ ∀ g, Fp' g → Fp g ∨ w.heap.size ≤ g
section
variable {w : World} {Fp : Nat → Prop} {b : Nat} {d : CD}
theorem u_ask (H : CacAt w Fp b d) (line : Int) (hln : 0 ≤ line ∧ line < 4294967296) (wr : Bool) (pick : Int) : Calls Try.prog 13 #[.pointer (some ⟨b, 0, none⟩), .int .u32 line, .bool wr, .int .i64 pick] w (Ret fun v w' => TakeU w Fp b (askF d line hln wr pick) v w') := by
  obtain ⟨id, n, ways, L, ask, giv⟩ := d
  refine (ask_c H.1 line hln pick wr).mono ?_
  rintro e w' ⟨v, rfl, A', cap', h1, h2, h3, Fp', h4, h5, h6⟩
  exact ⟨_, rfl, A', cap', h1, h2, h3, Fp', ⟨h4, H.2.ask line hln wr pick⟩, h5, h6⟩
theorem u_take (H : CacAt w Fp b d) (m : Msg) : Calls Try.prog 14 #[.pointer (some ⟨b, 0, none⟩), .agg (msgE.arr m)] w (Ret fun v w' => TakeU w Fp b (takeF d m) v w') := by
  obtain ⟨id, n, ways, L, ask, giv⟩ := d
  refine (take_c H.1 m H.2.id (fun h => data_room H.2.room m h)).mono ?_
  rintro e w' ⟨v, rfl, A', cap', h1, h2, h3, Fp', h4, h5, h6⟩
  exact ⟨_, rfl, A', cap', h1, h2, h3, Fp', ⟨h4, H.2.take m⟩, h5, h6⟩
def EvictU (w : World) (Fp : Nat → Prop) (b : Nat) (r : CD × List Msg) (v : Value) (w' : World) : Prop :=
  ∃ A' cap', v = .slice A' r.2.length cap' ∧ Own msgE w' A' cap' r.2 ∧ (∀ g, inA A' g → w.heap.size ≤ g) ∧ ∃ Fp', CacAt w' Fp' b r.1 ∧ Only Fp w w' ∧ ∀ g, Fp' g → Fp g ∨ w.heap.size ≤ g
theorem u_evict (H : CacAt w Fp b d) (pick : Int) : Calls Try.prog 25 #[.pointer (some ⟨b, 0, none⟩), .int .i64 pick] w (Ret fun v w' => EvictU w Fp b (evictF d pick) v w') := by
  obtain ⟨id, n, ways, L, ask, giv⟩ := d
  refine (evict_c H.1 pick).mono ?_
  rintro e w' ⟨v, rfl, A', cap', h1, h2, h3, Fp', h4, h5, h6⟩
  exact ⟨_, rfl, A', cap', h1, h2, h3, Fp', ⟨h4, H.2.evict pick⟩, h5, h6⟩
def WriteU (w : World) (Fp : Nat → Prop) (b : Nat) (r : CD × Int) (v : Value) (w' : World) : Prop :=
  v = .int .i64 r.2 ∧ ∃ Fp', CacAt w' Fp' b r.1 ∧ Only Fp w w' ∧ ∀ g, Fp' g → Fp g ∨ w.heap.size ≤ g
theorem u_write (H : CacAt w Fp b d) (addr : Int) (ha : 0 ≤ addr ∧ addr < 4294967296) (width value : Int) : Calls Try.prog 15 #[.pointer (some ⟨b, 0, none⟩), .int .u32 addr, .int .i64 width, .int .u32 value] w (Ret fun v w' => WriteU w Fp b (writeF d addr width value) v w') := by
  obtain ⟨id, n, ways, L, ask, giv⟩ := d
  refine (write_c addr ha width H.1 value).mono ?_
  rintro e w' ⟨v, rfl, h1, Fp', h4, h5, h6⟩
  exact ⟨_, rfl, h1, Fp', ⟨h4, H.2.write addr width value⟩, h5, h6⟩
theorem u_read (H : CacAt w Fp b d) (addr : Int) (ha : 0 ≤ addr ∧ addr < 4294967296) (width : Int) : Calls Try.prog 17 #[.pointer (some ⟨b, 0, none⟩), .int .u32 addr, .int .i64 width] w (Ret fun v w' => v = .tuple #[.int .u32 (readF d.L addr width).1, .int .i64 (readF d.L addr width).2] ∧ New w w') := by
  obtain ⟨lb, FpL, pa, pg, FpA, FpG, hB, hL, hA, hG, hP⟩ := H.1
  exact read_c addr ha width hB hL hP.lb
theorem u_state (H : CacAt w Fp b d) (line : Int) (hln : 0 ≤ line ∧ line < 4294967296) : Calls Try.prog 34 #[.pointer (some ⟨b, 0, none⟩), .int .u32 line] w (Ret fun v w' => v = .int .i64 (stateOf d.L line) ∧ New w w') := by
  obtain ⟨lb, FpL, pa, pg, FpA, FpG, hB, hL, hA, hG, hP⟩ := H.1
  exact state_c line hln hB hL hP.lb
theorem u_new (id : Int) (n : Nat) (ways : Int) (hid : 0 ≤ id ∧ id < 4) (hr : rightB ((n : Nat) : Int) ways = true) (w : World) : Calls Try.prog 12 #[.int .i64 id, .int .i64 ((n : Nat) : Int), .int .i64 ways] w (Ret fun v w' => ∃ b Fp, v = .tuple #[.pointer (some ⟨b, 0, none⟩), .int .i64 0] ∧ CacAt w' Fp b ⟨id, n, ways, [], none, none⟩ ∧ (∀ g, Fp g → w.heap.size ≤ g) ∧ New w w') := by
  refine (cnew_yes id n ways (by omega) (by omega) hr w).mono ?_
  rintro e w' ⟨v, rfl, b, Fp, h1, h2, h3, h4⟩
  exact ⟨_, rfl, b, Fp, h1, ⟨h2, DOk.new hid (right_bd hr)⟩, h3, h4⟩
variable {A : Option Addr} {cap : Nat}
end
end Go.Proofs.Ytflnlmibkbojcaa
namespace Go.Proofs.Ytflnlmibkbojcaa
open Go.RowKit
def intE : Enc Try.prog Int where
  T := 3
  n := 1
  cells := fun x => [.int .i64 x]
  len := fun _ => rfl
  one := fun x v hv => by
    simp at hv
    subst hv
    rfl
  pos := by decide
theorem elInt : ElemI intE 123 8 := ⟨Try.underlying123, by
  obtain ⟨i0, hi, hz0, hz1, hz2⟩ := info_parts (show (Try.prog.info? 3).map (fun i => (i.zero, i.size, i.bytes)) = some (some (.int .i64 0), 1, 8) by kernel_rfl)
  exact ⟨i0, _, hi, hz0, hz1, hz2, rfl⟩⟩
def b8 (b : B16) : List UInt8 := b.1.map fun x => UInt8.ofNat x.toNat
theorem b8_length (b : B16) : (b8 b).length = 16 := by simp [b8, b.2.1]
theorem b8_lineV (b : B16) : lineV (b8 b) = .agg (bsE.arr b) := by
  unfold lineV b8 Enc.arr
  congr 2
  show _ = b16c b
  unfold b16c
  rw [List.map_map]
  apply List.map_congr_left
  intro x hx
  have := b.2.2 x hx
  simp [u8v]
  omega
def lineB (bs : List UInt8) (n : Int) : B16 := ⟨(lineSpec bs n.toNat).map fun x => (x.toNat : Int), by simp [lineSpec_length], by
  intro a ha
  obtain ⟨x, _, rfl⟩ := List.mem_map.1 ha
  have := x.toNat_lt
  omega⟩
theorem lineB_lineV (bs : List UInt8) (n : Int) : lineV (lineSpec bs n.toNat) = .agg (bsE.arr (lineB bs n)) := by
  unfold lineV Enc.arr
  congr 2
  show _ = b16c _
  unfold b16c lineB
  rw [List.map_map]
  rfl
def setLn (bs : List UInt8) (n : Int) (b : B16) : List UInt8 := setSpec bs n.toNat (b8 b)
theorem setLn_length (bs : List UInt8) (n : Int) (b : B16) : (setLn bs n b).length = bs.length := setSpec_length _ _ _ (b8_length b)
end Go.Proofs.Ytflnlmibkbojcaa
namespace Go.Proofs.Ytflnlmibkbojcaa
open Go.RowKit
structure Sh where
  a : Bool
  b : Bool
  c : Bool
  d : Bool
  deriving DecidableEq
def Sh.get (s : Sh) (i : Int) : Bool := if i = 0 then s.a else if i = 1 then s.b else if i = 2 then s.c else if i = 3 then s.d else false
def Sh.set (s : Sh) (i : Int) (x : Bool) : Sh := if i = 0 then ⟨x, s.b, s.c, s.d⟩ else if i = 1 then ⟨s.a, x, s.c, s.d⟩ else if i = 2 then ⟨s.a, s.b, x, s.d⟩ else if i = 3 then ⟨s.a, s.b, s.c, x⟩ else s
def sh0 : Sh := ⟨false, false, false, false⟩
structure Ent where
  o : Int
  sh : Sh
  busy : Bool
  asks : Int
  kind : Int
  waits : Int
  told : Bool
  q : List Msg
  deriving DecidableEq
def ent0 : Ent := ⟨-1, sh0, false, 0, 0, 0, false, []⟩
structure HD where
  bs : List UInt8
  E : List Ent
structure EOk (n : Int) (d : Ent) : Prop where
  asks : 0 ≤ d.asks ∧ d.asks < 4
  told : d.told = true → d.waits = 0
  own : -1 ≤ d.o ∧ d.o < 4
  q : ∀ m ∈ d.q, 1 ≤ m.kind ∧ m.kind ≤ 3 ∧ 0 ≤ m.src ∧ m.src < 4 ∧ m.line = n
  waits : 0 ≤ d.waits ∧ d.waits ≤ 4
  kind : d.busy = true → d.kind = 1 ∨ d.kind = 2
def othK (sh : Sh) (r : Int) : Nat → List Int
  | 0 => []
  | k + 1 => if (sh.get k && decide ((k : Int) ≠ r)) = true then othK sh r k ++ [(k : Int)] else othK sh r k
def othersF (sh : Sh) (r : Int) : List Int := othK sh r 4
def leaveF (d : Ent) (r : Int) : Ent := { d with o := if d.o = r then -1 else d.o }
def ownF (d : Ent) (r : Int) : Ent := { d with o := r, sh := sh0 }
def busyF (d : Ent) (m : Msg) (waits : Int) (told : Bool) : Ent := { d with busy := true, asks := m.src, kind := m.kind, waits := waits, told := told }
def sendM (m : Msg) (kind dst : Int) (b : B16 := b16z) : Msg := mkM kind 4 dst m.line b m.hn
def beginF (bs : List UInt8) (d : Ent) (m : Msg) : Ent × List UInt8 × List Msg :=
  if m.kind = 3 then ((leaveF d m.src), (if d.o = m.src then setLn bs m.line m.bs else bs), [sendM m 7 m.src])
  else
    let e := leaveF d m.src
    if 0 ≤ e.o then (busyF e m 1 false, bs, [sendM m (3 + m.kind) e.o])
    else if m.kind = 2 then
      if othersF e.sh m.src = [] then (busyF (ownF e m.src) m 0 true, bs, [sendM m 10 m.src (lineB bs m.line)])
      else (busyF e m (othersF e.sh m.src).length false, bs, (othersF e.sh m.src).map (sendM m 6))
    else if othersF e.sh m.src = [] then (busyF (ownF e m.src) m 0 true, bs, [sendM m 9 m.src (lineB bs m.line)])
    else (busyF { e with sh := e.sh.set m.src true } m 0 true, bs, [sendM m 8 m.src (lineB bs m.line)])
def drainF : List Msg → List UInt8 → Ent → Ent × List UInt8 × List Msg
  | [], bs, d => ({ d with q := [] }, bs, [])
  | m :: r, bs, d => if d.busy then ({ d with q := m :: r }, bs, [])
    else
      let x := beginF bs { d with q := r } m
      let y := drainF r x.2.1 x.1
      (y.1, y.2.1, x.2.2 ++ y.2.2)
def strayF (d : Ent) (m : Msg) : Bool :=
  !d.busy || (decide (m.kind < 13) && decide (d.waits < 1)) || (decide (m.kind = 11) && decide (d.o ≠ m.src)) || (decide (m.kind = 12) && (decide (0 ≤ d.o) || !d.sh.get m.src || decide (m.src = d.asks))) || (decide (m.kind = 13) && (!d.told || decide (d.asks ≠ m.src)))
def otherF (bs : List UInt8) (d : Ent) (m : Msg) : Ent × List UInt8 × List Msg :=
  if m.kind = 13 then drainF d.q bs { d with busy := false, asks := 0, kind := 0, waits := 0, told := false }
  else if m.kind = 11 then
    let bs' := setLn bs m.line m.bs
    if d.kind = 1 then ({ d with o := -1, sh := (sh0.set m.src true).set d.asks true, waits := 0, told := true }, bs', [sendM m 8 d.asks (lineB bs' m.line)])
    else ({ ownF d d.asks with waits := 0, told := true }, bs', [sendM m 10 d.asks (lineB bs' m.line)])
  else
    if d.waits = 1 then ({ ownF d d.asks with waits := 0, told := true }, bs, [sendM m 10 d.asks (lineB bs m.line)])
    else ({ d with sh := d.sh.set m.src false, waits := d.waits - 1 }, bs, [])
def takeH (h : HD) (m : Msg) : HD × List Msg × Int :=
  if chk m ≠ 0 ∨ m.dst ≠ 4 then (h, [], 2)
  else if (h.E.length : Int) ≤ m.line then (h, [], 4)
  else
    let d := h.E.getD m.line.toNat ent0
    let put := fun (x : Ent × List UInt8 × List Msg) => (({ bs := x.2.1, E := h.E.set m.line.toNat x.1 } : HD), x.2.2, (0 : Int))
    if m.kind ≤ 3 then
      if d.busy then put ({ d with q := d.q ++ [m] }, h.bs, []) else put (beginF h.bs d m)
    else if strayF d m then (h, [], 220)
    else put (otherF h.bs d m)
end Go.Proofs.Ytflnlmibkbojcaa
namespace Go.Proofs.Ytflnlmibkbojcaa
open Go.RowKit
theorem fold_off (off : Nat) (l : List Value) : ∀ (k : Nat) (z : Array Value), off + k + l.length ≤ z.size → (l.zipIdx k).foldl (fun cs x => cs.setIfInBounds (off + x.2) x.1) z = (z.toList.take (off + k) ++ (l ++ z.toList.drop (off + k + l.length))).toArray := by
  induction l with
  | nil => intro k z h; simp
  | cons v l ih =>
    intro k z h
    simp only [List.length_cons] at h
    rw [List.zipIdx_cons, List.foldl_cons, ih (k + 1) _ (by simp; omega)]
    obtain ⟨z⟩ := z
    simp only [List.size_toArray] at h
    congr 1
    simp only [List.setIfInBounds_toArray]
    rw [show off + (k + 1) = off + k + 1 by omega, List.take_set, List.drop_set_of_lt (by omega), List.take_succ_eq_append_getElem (by omega), List.set_append_right _ _ (by rw [List.length_take]; omega)]
    simp [List.length_take, Nat.min_eq_left (show off + k ≤ z.length by omega), Nat.add_assoc, Nat.add_comm 1 l.length]
theorem fill_step {n q : Nat} {z cs r : Array Value} {v : Value} {rest : List (Nat × Value)} (hv : v.cells = cs) (hc : cs.size = n) (hz : q * n + n ≤ z.size)
    (h : Instr.fill (fun q => some (q * n, n)) (z.toList.take (q * n) ++ (cs.toList ++ z.toList.drop (q * n + n))).toArray rest = some r) : Instr.fill (fun q => some (q * n, n)) z ((q, v) :: rest) = some r := by
  unfold Instr.fill
  simp only [hv, hc, ne_eq, not_true_eq_false, decide_false, Bool.false_or]
  rw [if_neg (by simpa using hz)]
  rw [← Array.foldl_toList, Array.toList_zipIdx]
  have := fold_off (q * n) cs.toList 0 z (by simp [hc]; omega)
  rw [Nat.add_zero] at this
  rw [show (cs.toList.zipIdx.foldl (fun cs x => cs.setIfInBounds (q * n + x.2) x.1) z) = _ from this, Array.length_toList, hc]
  exact h
end Go.Proofs.Ytflnlmibkbojcaa
namespace Go.Proofs.Ytflnlmibkbojcaa
open Go.RowKit
def entA (d : Ent) (q : Value) : Array Value := #[.int .i64 d.o, .bool d.sh.a, .bool d.sh.b, .bool d.sh.c, .bool d.sh.d, .bool d.busy, .int .i64 d.asks, .int .i64 d.kind, .int .i64 d.waits, .bool d.told, q]
theorem ent_setSh (d : Ent) (q : Value) (j : Int) (x : Bool) (h0 : 0 ≤ j) (h : j < 4) : (entA d q).setIfInBounds (1 + j.toNat) (.bool x) = entA { d with sh := d.sh.set j x } q := by
  have : j = 0 ∨ j = 1 ∨ j = 2 ∨ j = 3 := by omega
  rcases this with rfl | rfl | rfl | rfl <;> rfl
theorem ent_sh (d : Ent) (q : Value) (j : Int) (h0 : 0 ≤ j) (h : j < 4) : (entA d q)[1 + j.toNat]? = some (.bool (d.sh.get j)) := by
  have : j = 0 ∨ j = 1 ∨ j = 2 ∨ j = 3 := by omega
  rcases this with rfl | rfl | rfl | rfl <;> rfl
theorem int_nat (k : IntKind) (j : Int) (h : 0 ≤ j) : Value.int k j = .int k ((j.toNat : Nat) : Int) := by rw [Int.toNat_of_nonneg h]
theorem quo_nat (a n : Nat) (h : a ≤ 9223372036854775807) : IntKind.i64.wrap (((a : Nat) : Int).tdiv ((n : Nat) : Int)) = ((a / n : Nat) : Int) := by
  show IntKind.i64.wrap ((a / n : Nat) : Int) = _
  have := Nat.div_le_self a n
  generalize a / n = q at this ⊢
  exact i64w rfl (by omega)
section
variable {w : World} {ev : Operand → Value} {o : Oper} {x y : Operand}
theorem x_indexSh {s : Sh} {j : Nat} (ho : o.op = .index 145 x y) (hx : ev x = .agg #[.bool s.a, .bool s.b, .bool s.c, .bool s.d]) (hy : ev y = .int .i64 ((j : Nat) : Int)) (hj : j < 4) : (execOp ev o).run Try.prog w = .ok (.value (.bool (s.get j))) w := by
  have hu := Try.underlying145
  cases h3 : Try.prog.info? 4 with
  | none => exact absurd h3 (by have := sz4; intro h; rw [h] at this; cases this)
  | some i =>
    have hs : i.size = 1 := by have := sz4; rw [h3] at this; simpa using this
    have : j = 0 ∨ j = 1 ∨ j = 2 ∨ j = 3 := by omega
    rcases this with rfl | rfl | rfl | rfl <;> simp [execOp, ho, hx, hy, Instr.index, asIntOf, run_underlying hu, sizeOf, typeInfo, h3, hs, part, Sh.get, Result.andThen]
end
section
variable {P : Program} {α : Type} [DecidableEq α] {E : Enc P α} {N : Nat × List Deferred} {T : List (Nat × Value)} {a : Act} {w : World} {Q : Exit → Act → World → Prop} {ops : Array Oper} {rest : List Oper} {o : Oper} {d : Nat} {t : TypeId} {bytes : Nat}
theorem fx_build1v (hE : ElemI E t bytes) (hs : E.n ≤ 1000) (fr : Fr N T a) (hw : Region.wanted o (yielded ops a.tmps) = true) (hd : o.dst = some d) (hN : d < N.1) {x : Operand} (ho : o.op = .buildSlice t 1 #[(0, x)]) {p : α} {v : Value} (hx : a.eval x = v) (hv : v.cells = E.arr p)
    (next : ∀ A w1, New w w1 → Own E w1 A 1 [p] → (∀ g, inA A g → w.heap.size ≤ g) → ∀ a, Fr N ((d, .slice A 1 1) :: T) a → wpList P ops Q rest a w1) : wpList P ops Q (o :: rest) a w := by
  obtain ⟨i, z, hi, hz, hsz, hby, hzc⟩ := hE.info
  have hpos := E.pos
  refine fx_val (v := .slice (some ⟨w.heap.size, 0, none⟩) 1 1) (w1 := w.alloc (.cells (E.arr p) E.T)) fr hw hd hN ?_ fun a fr => next _ _ ((Only.refl _ w).alloc _) ⟨by simp, by unfold maxLen; omega, .inr ⟨_, 0, _, rfl, Go.heap_alloc_new w _, by rw [E.size]; omega, ?_⟩⟩ inA_new a fr
  · have hfill : Instr.fill (fun q => some (q * i.size, i.size)) ((Array.range (1 * i.size)).map (z.cells[· % z.cells.size]!)) [(0, v)] = some (E.arr p) := by
      refine fill_step hv (by rw [E.size, hsz]) (by simp) ?_
      unfold Instr.fill
      congr 1
      apply Array.toList_inj.1
      simp [hsz]
    have := run_buildSlice (P := P) w t E.T 1 #[(0, v)] (E.arr p) i z hE.ty hi hz (by rw [hsz]; omega) (by rw [hsz]; omega) hfill
    simp [execOp, ho, hx, this]
  · rw [List.drop_zero, E.toList, List.take_of_length_le (by rw [E.len]; simp)]
    simp
end
theorem hline_c {w : World} {bi g cap : Nat} {bs : List UInt8} (line : Int) (h0 : 0 ≤ line) (hI : Img 0 w bi g cap bs) : Calls Try.prog 111 #[.pointer (some ⟨bi, 0, none⟩), .int .u32 line] w (Ret fun v w' => v = .tuple #[.agg (bsE.arr (lineB bs line)), .int .i64 (lineErr bs.length line.toNat)] ∧ New w w') := by
  have h := line_any hI line.toNat
  rw [Int.toNat_of_nonneg h0, lineB_lineV] at h
  refine h.mono ?_
  rintro e w' ⟨rfl, hn⟩
  exact ⟨_, rfl, rfl, hn⟩
theorem hset_c {w : World} {bi g cap : Nat} {bs : List UInt8} (line : Int) (b : B16) (h0 : 0 ≤ line) (hI : Img 0 w bi g cap bs) : Calls Try.prog 101 #[.pointer (some ⟨bi, 0, none⟩), .int .u32 line, .agg (bsE.arr b)] w (Ret fun v w' => v = .int .i64 (lineErr bs.length line.toNat) ∧ Img 0 w' bi g cap (setLn bs line b) ∧ Only (fun k => k = g) w w') := by
  have h := setline_any hI line.toNat (b8 b) (b8_length b)
  rw [Int.toNat_of_nonneg h0, b8_lineV] at h
  refine h.mono ?_
  rintro e w' ⟨rfl, hn, ho⟩
  exact ⟨_, rfl, rfl, hn, ho⟩
structure WSep (bw be bh bi ig : Nat) (Q A : Option Addr) : Prop where
  ne_bw_be : NE bw be
  ne_bw_bh : NE bw bh
  ne_bw_bi : NE bw bi
  ne_bw_ig : NE bw ig
  ne_be_bh : NE be bh
  ne_be_bi : NE be bi
  ne_be_ig : NE be ig
  ne_bh_bi : NE bh bi
  ne_bh_ig : NE bh ig
  ne_bi_ig : NE bi ig
  ap_Q_bw : Apart Q bw
  ap_Q_be : Apart Q be
  ap_Q_bh : Apart Q bh
  ap_Q_bi : Apart Q bi
  ap_Q_ig : Apart Q ig
  ap_A_bw : Apart A bw
  ap_A_be : Apart A be
  ap_A_bh : Apart A bh
  ap_A_bi : Apart A bi
  ap_A_ig : Apart A ig
  ap2_Q_A : Apart2 Q A
structure WorkR (w : World) (bw be bh bi ig cap r : Nat) (line : Int) (d : Ent) (Q : Option Addr) (qc : Nat) (A : Option Addr) (ac : Nat) (out : List Msg) (bs : List UInt8) : Prop where
  hW : Blk w bw 176 #[.slice A out.length ac, .pointer (some ⟨be, 0, none⟩), .pointer (some ⟨bh, 0, none⟩), .int .u32 line]
  hE : Blk w be 147 (entA d (.slice Q d.q.length qc))
  hH : Blk w bh 140 #[.pointer (some ⟨bi, 0, none⟩), .map (some r)]
  hI : Img 0 w bi ig cap bs
  hQ : View msgE w Q qc d.q
  hO : Own msgE w A ac out
  hS : WSep bw be bh bi ig Q A
def WRet (w w' : World) (bw be bh bi ig cap r : Nat) (line : Int) (Q : Option Addr) (qc : Nat) (A : Option Addr) (out : List Msg) (d' : Ent) (bs' : List UInt8) (new : List Msg) : Prop :=
  ∃ A' ac', WorkR w' bw be bh bi ig cap r line d' Q qc A' ac' (out ++ new) bs' ∧ (∀ k, inA A' k → inA A k ∨ w.heap.size ≤ k) ∧ Only (fun k => k = bw ∨ k = be ∨ k = ig ∨ inA A k) w w'
def HRet (w w' : World) (bw be bh bi ig cap r : Nat) (line : Int) (Q : Option Addr) (A : Option Addr) (out : List Msg) (x : Ent × List UInt8 × List Msg) : Prop :=
  ∃ Q' qc' A' ac', WorkR w' bw be bh bi ig cap r line x.1 Q' qc' A' ac' (out ++ x.2.2) x.2.1 ∧ (∀ k, inA A' k → (inA A k ∨ inA Q k) ∨ w.heap.size ≤ k) ∧ (∀ k, inA Q' k → (inA A k ∨ inA Q k) ∨ w.heap.size ≤ k) ∧ Only (fun k => k = bw ∨ k = be ∨ k = ig ∨ inA A k ∨ inA Q k) w w'
theorem cut_in {P : Program} {α : Type} [DecidableEq α] {E : Enc P α} {w : World} {l : List α} {A : Option Addr} {cap c k n g : Nat} (hv : View E w A cap l) (h : inA (cutA A c k n) g) : inA A g := by
  unfold cutA at h
  split at h
  · exact h
  · obtain ⟨o, ho⟩ := h
    obtain ⟨_, _, ⟨rfl, _⟩ | ⟨b, o', rfl, _, _⟩⟩ := hv
    · cases ho
    · simp only [Option.map_some, Option.some.injEq] at ho
      unfold Addr.add at ho
      split at ho
      · cases ho; exact ⟨_, rfl⟩
      · cases ho; exact ⟨_, rfl⟩
theorem wmv {n bw be ig : Nat} {A A' : Option Addr} (h : ∀ k, inA A' k → (k = bw ∨ k = be ∨ k = ig ∨ inA A k) ∨ n ≤ k) (h1 : Apart A' bw) (h2 : Apart A' be) (h3 : Apart A' ig) : ∀ k, inA A' k → inA A k ∨ n ≤ k := fun k hk => by
  rcases h k hk with (rfl | rfl | rfl | h) | h
  · exact absurd hk h1
  · exact absurd hk h2
  · exact absurd hk h3
  · exact .inl h
  · exact .inr h
theorem take_map_sn {f : Int → Msg} {L : List Int} {i : Nat} (h : i < L.length) (out : List Msg) : out ++ (L.take (i + 1)).map f = (out ++ (L.take i).map f) ++ [f (L.getD i 0)] := by
  rw [List.take_succ_eq_append_getElem h, List.map_append, List.append_assoc]
  simp [List.getD, h]
theorem othK_len (sh : Sh) (r : Int) : ∀ i, (othK sh r i).length ≤ i
  | 0 => Nat.le_refl _
  | i + 1 => by
    have := othK_len sh r i
    unfold othK
    split
    · simp; omega
    · omega
section
variable {bs : List UInt8} {d : Ent} {m : Msg}
theorem begin_put (h : m.kind = 3) : beginF bs d m = (leaveF d m.src, (if d.o = m.src then setLn bs m.line m.bs else bs), [sendM m 7 m.src]) := by unfold beginF; rw [if_pos h]
theorem begin_s1 (h : m.kind = 1) (h1 : 0 ≤ (leaveF d m.src).o) : beginF bs d m = (busyF (leaveF d m.src) m 1 false, bs, [sendM m 4 (leaveF d m.src).o]) := by
  unfold beginF; rw [if_neg (by omega)]; dsimp only; rw [if_pos h1, h]; rfl
theorem begin_s2 (h : m.kind = 1) (h1 : ¬ 0 ≤ (leaveF d m.src).o) (h2 : 0 < (othersF (leaveF d m.src).sh m.src).length) : beginF bs d m = (busyF { leaveF d m.src with sh := (leaveF d m.src).sh.set m.src true } m 0 true, bs, [sendM m 8 m.src (lineB bs m.line)]) := by
  unfold beginF; rw [if_neg (by omega)]; dsimp only; rw [if_neg h1, if_neg (by omega), if_neg (fun e => by rw [e] at h2; simp at h2)]
theorem begin_s3 (h : m.kind = 1) (h1 : ¬ 0 ≤ (leaveF d m.src).o) (h2 : ¬ 0 < (othersF (leaveF d m.src).sh m.src).length) : beginF bs d m = (busyF (ownF (leaveF d m.src) m.src) m 0 true, bs, [sendM m 9 m.src (lineB bs m.line)]) := by
  unfold beginF; rw [if_neg (by omega)]; dsimp only; rw [if_neg h1, if_neg (by omega), if_pos (List.eq_nil_of_length_eq_zero (by omega))]
theorem begin_m1 (h : m.kind = 2) (h1 : 0 ≤ (leaveF d m.src).o) : beginF bs d m = (busyF (leaveF d m.src) m 1 false, bs, [sendM m 5 (leaveF d m.src).o]) := by
  unfold beginF; rw [if_neg (by omega)]; dsimp only; rw [if_pos h1, h]; rfl
theorem begin_m2 (h : m.kind = 2) (h1 : ¬ 0 ≤ (leaveF d m.src).o) (h2 : ¬ (othersF (leaveF d m.src).sh m.src).length = 0) : beginF bs d m = (busyF (leaveF d m.src) m (othersF (leaveF d m.src).sh m.src).length false, bs, (othersF (leaveF d m.src).sh m.src).map (sendM m 6)) := by
  unfold beginF; rw [if_neg (by omega)]; dsimp only; rw [if_neg h1, if_pos h, if_neg (fun e => by rw [e] at h2; simp at h2)]
theorem begin_m3 (h : m.kind = 2) (h1 : ¬ 0 ≤ (leaveF d m.src).o) (h2 : (othersF (leaveF d m.src).sh m.src).length = 0) : beginF bs d m = (busyF (ownF (leaveF d m.src) m.src) m 0 true, bs, [sendM m 10 m.src (lineB bs m.line)]) := by
  unfold beginF; rw [if_neg (by omega)]; dsimp only; rw [if_neg h1, if_pos h, if_pos (List.eq_nil_of_length_eq_zero h2)]
theorem begin_q : (beginF bs d m).1.q = d.q := by
  unfold beginF; dsimp only
  split
  · rfl
  · split
    · rfl
    · split
      · split <;> rfl
      · split <;> rfl
theorem begin_len : (beginF bs d m).2.2.length ≤ 4 := by
  unfold beginF; dsimp only
  split
  · simp
  · split
    · simp
    · split
      · split
        · simp
        · rw [List.length_map]; exact othK_len _ _ 4
      · split <;> simp
theorem other_b1 (h : m.kind = 11) (hk : d.kind = 1) : otherF bs d m = ({ d with o := -1, sh := (sh0.set m.src true).set d.asks true, waits := 0, told := true }, setLn bs m.line m.bs, [sendM m 8 d.asks (lineB (setLn bs m.line m.bs) m.line)]) := by
  unfold otherF; rw [if_neg (by omega), if_pos h]; dsimp only; rw [if_pos hk]
theorem other_b2 (h : m.kind = 11) (hk : ¬ d.kind = 1) : otherF bs d m = ({ ownF d d.asks with waits := 0, told := true }, setLn bs m.line m.bs, [sendM m 10 d.asks (lineB (setLn bs m.line m.bs) m.line)]) := by
  unfold otherF; rw [if_neg (by omega), if_pos h]; dsimp only; rw [if_neg hk]
theorem other_a1 (h : m.kind = 12) (hk : d.waits = 1) : otherF bs d m = ({ ownF d d.asks with waits := 0, told := true }, bs, [sendM m 10 d.asks (lineB bs m.line)]) := by
  unfold otherF; rw [if_neg (by omega), if_neg (by omega), if_pos hk]
theorem other_a2 (h : m.kind = 12) (hk : ¬ d.waits = 1) : otherF bs d m = ({ d with sh := d.sh.set m.src false, waits := d.waits - 1 }, bs, []) := by
  unfold otherF; rw [if_neg (by omega), if_neg (by omega), if_neg hk]
theorem other_d (h : m.kind = 13) : otherF bs d m = drainF d.q bs { d with busy := false, asks := 0, kind := 0, waits := 0, told := false } := by
  unfold otherF; rw [if_pos h]
def addF (out : List Msg) (x : Ent × List UInt8 × List Msg) : Ent × List UInt8 × List Msg := (x.1, x.2.1, out ++ x.2.2)
theorem drain_end (h : d.busy = true ∨ d.q = []) (out : List Msg) : addF out (drainF d.q bs d) = (d, bs, out) := by
  obtain ⟨o, sh, busy, asks, kind, waits, told, q⟩ := d
  dsimp only at h ⊢
  cases q with
  | nil => simp [drainF, addF]
  | cons m r =>
    obtain rfl : busy = true := by simpa using h
    simp [drainF, addF]
theorem drain_step (hb : d.busy = false) (hq : 0 < d.q.length) (out : List Msg) :
    addF (out ++ (beginF bs { d with q := d.q.drop 1 } (d.q.getD 0 msg0)).2.2) (drainF (beginF bs { d with q := d.q.drop 1 } (d.q.getD 0 msg0)).1.q (beginF bs { d with q := d.q.drop 1 } (d.q.getD 0 msg0)).2.1 (beginF bs { d with q := d.q.drop 1 } (d.q.getD 0 msg0)).1) = addF out (drainF d.q bs d) := by
  obtain ⟨o, sh, busy, asks, kind, waits, told, q⟩ := d
  dsimp only at hb hq ⊢
  subst hb
  cases q with
  | nil => simp at hq
  | cons m r =>
    rw [begin_q]
    show _ = addF out (drainF (m :: r) bs _)
    rw [drainF]
    simp [addF, List.append_assoc]
theorem back_nob (hk : m.kind = 11) (hs : strayF d m = true) : ((d.busy && decide (0 < d.waits)) && decide (d.o = m.src)) = false := by
  unfold strayF at hs
  cases hb : d.busy
  · rfl
  · by_cases h1 : 0 < d.waits
    · by_cases h2 : d.o = m.src
      · exfalso
        simp [hk, h2, hb] at hs
        omega
      · simp [h2]
    · simp [h1]
theorem ack_nob (hk : m.kind = 12) (hs : strayF d m = true) : ((((d.busy && decide (0 < d.waits)) && decide (d.o < 0)) && d.sh.get m.src) && decide (m.src ≠ d.asks)) = false := by
  unfold strayF at hs
  cases hb : d.busy
  · rfl
  · cases hg : d.sh.get m.src
    · simp
    · by_cases h1 : 0 < d.waits
      · by_cases h2 : d.o < 0
        · by_cases h3 : m.src = d.asks
          · simp [h3]
          · exfalso
            simp [hk, hb, hg, h3] at hs
            omega
        · simp [h2]
      · simp [h1]
theorem done_nob (hk : m.kind = 13) (hs : strayF d m = true) : ((d.busy && d.told) && decide (d.asks = m.src)) = false := by
  unfold strayF at hs
  cases hb : d.busy
  · rfl
  · cases ht : d.told
    · rfl
    · by_cases h3 : d.asks = m.src
      · exfalso
        simp [hk, hb, ht, h3] at hs
      · simp [h3]
theorem leave_ne (h : ¬ d.o = m.src) : leaveF d m.src = d := by unfold leaveF; rw [if_neg h]
theorem leave_eq (h : d.o = m.src) : leaveF d m.src = { d with o := -1 } := by unfold leaveF; rw [if_pos h]
end
end Go.Proofs.Ytflnlmibkbojcaa
namespace Go.Proofs.Ytflnlmibkbojcaa
open Go.RowKit
theorem hmust_ok (e : Int) (w : World) : Calls Try.prog 100 #[.bool true, .int .i64 e] w (Ret fun v w' => v = .tuple #[] ∧ w' = w) := by
 refine Zen 9 Try.func100 ?_
 refine Zsm ?_
 refine Zv (.bool false) (fun _ fr => x_not rfl (fr.ev rfl) rfl) ?_
 refine Znf ?_
 refine Zsk ?_
 refine Zee rfl [] trivial ?_
 exact ⟨_, rfl, rfl, rfl⟩
def hstopE (why : Int) : List PanicEntry := [{ v := .iface 170 (.agg #[.int .i64 why]), recovered := false }]
theorem hmust_no (e : Int) (w : World) : Calls Try.prog 100 #[.bool false, .int .i64 e] w (Pan fun c w' => c = hstopE e ∧ w' = w) := by
 refine Zen 9 Try.func100 ?_
 refine Zsm ?_
 refine Zv (.bool true) (fun _ fr => x_not rfl (fr.ev rfl) rfl) ?_
 refine Znt ?_
 refine Zgm ?_
 refine Zv (.agg (#[.int .i64 e])) (fun a fr => x_build (cells := #[.int .i64 e]) rfl (by simp only [List.map_toArray, List.map_cons, List.map_nil, show a.eval (.tmp 6) = .int .i64 e from fr.ev rfl]; kernel_rfl)) ?_
 refine Zv _ (fun _ fr => x_makeInterface rfl (fr.ev rfl) Try.underlying170 rfl) ?_
 intro a fr
 refine fx_panic rfl rfl (fr.ev rfl) ?_
 refine fx_pend fr ?_
 exact ⟨_, rfl, rfl, rfl⟩
theorem must_nob {b : Bool} (hb : b = false) (e : Int) (w : World) : Calls Try.prog 100 #[.bool b, .int .i64 e] w (Pan fun c w' => c = hstopE e ∧ w' = w) := by subst hb; exact hmust_no e w
theorem leave_c {w : World} {bw be bh : Nat} {A : Option Addr} {n ac : Nat} {line : Int} (hW : Blk w bw 176 #[.slice A n ac, .pointer (some ⟨be, 0, none⟩), .pointer (some ⟨bh, 0, none⟩), .int .u32 line]) {d : Ent} {qv : Value} (hE : Blk w be 147 (entA d qv)) (ne_bw_be : NE bw be) (r : Int) : Calls Try.prog 112 #[.pointer (some ⟨bw, 0, none⟩), .int .i64 r] w (Ret fun v w' => v = .tuple #[] ∧ Blk w' be 147 (entA (leaveF d r) qv) ∧ Only (fun k => k = be) w w') := by
 have hF := Only.refl (fun k => k = be) w
 refine Zen 19 Try.func112 ?_
 refine Zsm ?_
 refine Zn ?_
 refine Zf fo176_1 ?_
 refine Zd pl144 (hW.cell 1 rfl) ?_
 refine Zn ?_
 refine Zf fo147_0 ?_
 refine Zd (v := .int .i64 d.o) pl3 (hE.cell 0 rfl) ?_
 refine Zm ?_
 refine Zv _ (fun _ fr => x_eql rfl (fr.ev rfl) (fr.ev rfl) rfl) ?_
 refine Znn ?_
 refine Zcd (fun hc1 => ?_) (fun hc1 => ?_)
 ·have hc1 := of_decide_eq_true hc1
  refine Zgm ?_
  refine Zn ?_
  refine Zf fo176_1 ?_
  refine Zd pl144 (hW.cell 1 rfl) ?_
  refine Zn ?_
  refine Zf fo147_0 ?_
  refine Zs1 (cs' := entA ({ d with o := (-1) }) (qv)) sz3 hE (show 0 < 11 by decide) rfl fun w2 hO3 hE => ?_
  refine Znl ?_
  refine Zee rfl [] trivial ?_
  replace hF := hF.loc hO3 (.inl rfl)
  refine ⟨_, rfl, rfl, ?_, hF⟩
  rw [show leaveF d r = { d with o := -1 } by unfold leaveF; rw [if_pos hc1]]
  exact hE
 ·have hc1 := of_decide_eq_false hc1
  refine Zsk ?_
  refine Zee rfl [] trivial ?_
  refine ⟨_, rfl, rfl, ?_, hF⟩
  rw [show leaveF d r = d by unfold leaveF; rw [if_neg hc1]]
  exact hE
theorem own_c {w : World} {bw be bh : Nat} {A : Option Addr} {n ac : Nat} {line : Int} (hW : Blk w bw 176 #[.slice A n ac, .pointer (some ⟨be, 0, none⟩), .pointer (some ⟨bh, 0, none⟩), .int .u32 line]) {d : Ent} {qv : Value} (hE : Blk w be 147 (entA d qv)) (ne_bw_be : NE bw be) (r : Int) : Calls Try.prog 103 #[.pointer (some ⟨bw, 0, none⟩), .int .i64 r] w (Ret fun v w' => v = .tuple #[] ∧ Blk w' be 147 (entA (ownF d r) qv) ∧ Only (fun k => k = be) w w') := by
 have hF := Only.refl (fun k => k = be) w
 refine Zen 18 Try.func103 ?_
 refine ZhT (n := 13) 13 (fun w => Blk w bw 176 #[.slice A n ac, .pointer (some ⟨be, 0, none⟩), .pointer (some ⟨bh, 0, none⟩), .int .u32 line] ∧ True) ?_
 intro w1 hN2
 replace hW := hW.new hN2
 have hS9 := And.intro hW trivial
 refine Zhm 0 hS9 ?_
 refine Zhc 1 hS9 ?_
 refine Zhf 2 fo176_1 hS9 ?_
 refine Zhl 3 pl144 hS9 (fun _ ⟨hW, _⟩ => (hW.cell 1 rfl)) ?_
 refine Zhm 4 hS9 ?_
 refine Zhc 5 hS9 ?_
 refine Zhf 6 fo176_1 hS9 ?_
 refine Zhl 7 pl144 hS9 (fun _ ⟨hW, _⟩ => (hW.cell 1 rfl)) ?_
 refine Zhm 8 hS9 ?_
 refine Zht 9 rfl (.agg (#[.bool false, .bool false, .bool false, .bool false])) hS9 (fun _ _ _ _ => x_build (cells := #[.bool false, .bool false, .bool false, .bool false]) rfl (by kernel_rfl)) ?_
 refine Zhc 10 hS9 ?_
 refine Zhf 11 fo147_0 hS9 ?_
 refine Zh1 12 ?_
 replace hE := hE.new hN2
 refine Zs1 (cs' := entA ({ d with o := r }) (qv)) sz3 hE (show 0 < 11 by decide) rfl fun w3 hO4 hE => ?_
 replace hW := hW.only hO4 ne_bw_be
 refine Zhb ⟨hW, trivial⟩ ?_
 refine Zhn ?_
 refine Ztl ?_
 refine Zn ?_
 refine Zf fo147_1 ?_
 intro a fr
 refine fx_storeAt sz145 rfl rfl rfl (fr.ev rfl) (fr.ev rfl) (by simp [Value.oneCell']) hE rfl (show 1 + 4 ≤ 11 by decide) (cs' := entA ({ { d with o := r } with sh := sh0 }) (qv)) rfl fun w5 hO6 hBq => ?_
 revert a
 replace hE := hBq
 clear hBq
 refine Znl ?_
 refine Zee rfl [] trivial ?_
 replace hF := ((hF.trNew hN2).loc hO4 (.inl rfl)).loc hO6 (.inl rfl)
 exact ⟨_, rfl, rfl, hE, hF⟩
theorem busy_c {w : World} {bw be bh : Nat} {A : Option Addr} {n ac : Nat} {line : Int} (hW : Blk w bw 176 #[.slice A n ac, .pointer (some ⟨be, 0, none⟩), .pointer (some ⟨bh, 0, none⟩), .int .u32 line]) {d : Ent} {qv : Value} (hE : Blk w be 147 (entA d qv)) (ne_bw_be : NE bw be) (m : Msg) (waits : Int) (told : Bool) : Calls Try.prog 113 #[.pointer (some ⟨bw, 0, none⟩), .agg (msgE.arr m), .int .i64 waits, .bool told] w (Ret fun v w' => v = .tuple #[] ∧ Blk w' be 147 (entA (busyF d m waits told) qv) ∧ Only (fun k => k = be) w w') := by
 have hF := Only.refl (fun k => k = be) w
 refine Zen 44 Try.func113 ?_
 refine Zsr ?_
 refine Znb (cs := msgE.arr m) fun b1 w2 hN3 B4 hb5 => ?_
 have ne_be_b1 := nelt hE.lt hb5
 refine Znn ?_
 refine ZhT (n := 38) 38 (fun w => Blk w bw 176 #[.slice A n ac, .pointer (some ⟨be, 0, none⟩), .pointer (some ⟨bh, 0, none⟩), .int .u32 line] ∧ Blk w b1 35 (msgE.arr m) ∧ True) ?_
 intro w6 hN7
 replace hW := (hW.new hN3).new hN7
 replace B4 := B4.new hN7
 have hS9 := And.intro hW (And.intro B4 trivial)
 refine Zhm 0 hS9 ?_
 refine Zhc 1 hS9 ?_
 refine Zhf 2 fo176_1 hS9 ?_
 refine Zhl 3 pl144 hS9 (fun _ ⟨hW, _⟩ => (hW.cell 1 rfl)) ?_
 refine Zhm 4 hS9 ?_
 refine Zhc 5 hS9 ?_
 refine Zhf 6 fo176_1 hS9 ?_
 refine Zhl 7 pl144 hS9 (fun _ ⟨hW, _⟩ => (hW.cell 1 rfl)) ?_
 refine Zhm 8 hS9 ?_
 refine Zhc 9 hS9 ?_
 refine Zhf 10 fo176_1 hS9 ?_
 refine Zhl 11 pl144 hS9 (fun _ ⟨hW, _⟩ => (hW.cell 1 rfl)) ?_
 refine Zhm 12 hS9 ?_
 refine Zhc 13 hS9 ?_
 refine Zhf 14 fo176_1 hS9 ?_
 refine Zhl 15 pl144 hS9 (fun _ ⟨hW, _⟩ => (hW.cell 1 rfl)) ?_
 refine Zhm 16 hS9 ?_
 refine Zhc 17 hS9 ?_
 refine Zhf 18 fo176_1 hS9 ?_
 refine Zhl 19 pl144 hS9 (fun _ ⟨hW, _⟩ => (hW.cell 1 rfl)) ?_
 refine Zhf 20 fo35_1 hS9 ?_
 refine Zhl (v := .int .i64 m.src) 21 pl3 hS9 (fun _ ⟨_, B4, _⟩ => (B4.cell 1 rfl)) ?_
 refine Zhf 22 fo35_0 hS9 ?_
 refine Zhl (v := .int .i64 m.kind) 23 pl33 hS9 (fun _ ⟨_, B4, _⟩ => (B4.cell 0 rfl)) ?_
 refine Zhm 24 hS9 ?_
 refine Zhm 25 hS9 ?_
 refine Zhc 26 hS9 ?_
 refine Zhf 27 fo147_2 hS9 ?_
 refine Zh1 28 ?_
 replace hE := (hE.new hN3).new hN7
 refine Zs1 (cs' := entA ({ d with busy := true }) (qv)) sz4 hE (show 5 < 11 by decide) rfl fun w8 hO9 hE => ?_
 replace hW := hW.only hO9 ne_bw_be
 replace B4 := B4.only hO9 ne_be_b1.symm
 refine Zhb ⟨hW, B4, trivial⟩ ?_
 have hS9 := And.intro hW (And.intro B4 trivial)
 refine Zhc 29 hS9 ?_
 refine Zhf 30 fo147_3 hS9 ?_
 refine Zh1 31 ?_
 refine Zs1 (cs' := entA ({ { d with busy := true } with asks := m.src }) (qv)) sz3 hE (show 6 < 11 by decide) rfl fun w10 hO11 hE => ?_
 replace hW := hW.only hO11 ne_bw_be
 replace B4 := B4.only hO11 ne_be_b1.symm
 refine Zhb ⟨hW, B4, trivial⟩ ?_
 have hS9 := And.intro hW (And.intro B4 trivial)
 refine Zhc 32 hS9 ?_
 refine Zhf 33 fo147_4 hS9 ?_
 refine Zh1 34 ?_
 refine Zs1 (cs' := entA ({ { { d with busy := true } with asks := m.src } with kind := m.kind }) (qv)) sz33 hE (show 7 < 11 by decide) rfl fun w12 hO13 hE => ?_
 replace hW := hW.only hO13 ne_bw_be
 replace B4 := B4.only hO13 ne_be_b1.symm
 refine Zhb ⟨hW, B4, trivial⟩ ?_
 have hS9 := And.intro hW (And.intro B4 trivial)
 refine Zhc 35 hS9 ?_
 refine Zhf 36 fo147_5 hS9 ?_
 refine Zh1 37 ?_
 refine Zs1 (cs' := entA ({ { { { d with busy := true } with asks := m.src } with kind := m.kind } with waits := waits }) (qv)) sz3 hE (show 8 < 11 by decide) rfl fun w14 hO15 hE => ?_
 replace hW := hW.only hO15 ne_bw_be
 replace B4 := B4.only hO15 ne_be_b1.symm
 refine Zhb ⟨hW, B4, trivial⟩ ?_
 refine Zhn ?_
 refine Ztl ?_
 refine Zn ?_
 refine Zf fo147_6 ?_
 refine Zs1 (cs' := entA ({ { { { { d with busy := true } with asks := m.src } with kind := m.kind } with waits := waits } with told := told }) (qv)) sz4 hE (show 9 < 11 by decide) rfl fun w16 hO17 hE => ?_
 refine Znl ?_
 refine Zee rfl [] trivial ?_
 replace hF := ((((((hF.trNew hN3).trNew hN7).loc hO9 (.inl rfl)).loc hO11 (.inl rfl)).loc hO13 (.inl rfl)).loc hO15 (.inl rfl)).loc hO17 (.inl rfl)
 exact ⟨_, rfl, rfl, hE, hF⟩
theorem othK_t {sh : Sh} {r : Int} {i : Nat} (h : (sh.get ((i : Nat) : Int) && decide (((i : Nat) : Int) ≠ r)) = true) : othK sh r (i + 1) = othK sh r i ++ [((i : Nat) : Int)] := if_pos h
theorem othK_f {sh : Sh} {r : Int} {i : Nat} (h : (sh.get ((i : Nat) : Int) && decide (((i : Nat) : Int) ≠ r)) = false) : othK sh r (i + 1) = othK sh r i := if_neg (by rw [h]; decide)
theorem others_c {w : World} {bw be bh : Nat} {A : Option Addr} {n ac : Nat} {line : Int} (hW : Blk w bw 176 #[.slice A n ac, .pointer (some ⟨be, 0, none⟩), .pointer (some ⟨bh, 0, none⟩), .int .u32 line]) {d : Ent} {qv : Value} (hE : Blk w be 147 (entA d qv)) (ne_bw_be : NE bw be) (r : Int) : Calls Try.prog 114 #[.pointer (some ⟨bw, 0, none⟩), .int .i64 r] w (Ret fun v w' => ∃ A' c', v = .slice A' (othersF d.sh r).length c' ∧ Own intE w' A' c' (othersF d.sh r) ∧ (∀ g, inA A' g → w.heap.size ≤ g) ∧ New w w') := by
 have hF := Only.refl (fun _ => False) w
 refine Zen 31 Try.func114 ?_
 refine Zsr ?_
 refine Zan ?_
 refine Zsr ?_
 refine Zaq ?_
 refine Zsm ?_
 refine Zn ?_
 refine Zf fo176_1 ?_
 refine Zd pl144 (hW.cell 1 rfl) ?_
 refine Zn ?_
 refine Zf fo147_1 ?_
 refine Zv _ (fun _ fr => x_loadS ag145 rfl (fr.ev rfl) rfl (hE.part (q := 1) (n := 4) rfl)) ?_
 refine Zm ?_
 refine Znn ?_
 refine Zbl ?_
 intro a fr
 refine fx_loop (fun nM a wL => ∃ i : Nat, ∃ A1 : Option Addr, ∃ c1 : Nat, nM = 4 - i ∧ Fr (31, []) [(0, .pointer (some ⟨bw, 0, none⟩)), (1, .int .i64 r), (5, .slice A1 ((othK d.sh r i).length) c1), (14, .agg (#[.bool d.sh.a, .bool d.sh.b, .bool d.sh.c, .bool d.sh.d])), (15, .int .i64 ((i : Nat) : Int))] a ∧ Only (fun _ => False) w wL ∧ Own intE wL A1 c1 (othK d.sh r i) ∧ i ≤ 4 ∧ (∀ g, inA A1 g → (fun _ => False) g ∨ w.heap.size ≤ g)) (n0 := _) ⟨0, none, 0, rfl, fr.sub ⟨rfl, rfl, rfl, rfl, rfl, trivial⟩, hF, Own.nil, by omega, gA_none⟩ ?_
 clear fr a
 rintro n2 a w1 ⟨i, A1, c1, rfl, fr, hF, OL, hp3, gA_A1⟩
 revert a
 have hkl := othK_len d.sh r i
 refine Zsr ?_
 refine Zv _ (fun _ fr => x_lss rfl (fr.ev rfl) rfl rfl) ?_
 refine Znq ?_
 refine Zcd (fun hc4 => ?_) (fun hc4 => ?_)
 ·have hc4 := of_decide_eq_true hc4
  refine Zkn ?_
  refine Zsq ?_
  refine Zbl ?_
  refine Zsm ?_
  refine Zv (.bool (d.sh.get ((i : Nat) : Int))) (fun _ fr => x_indexSh (s := d.sh) rfl (fr.ev rfl) (fr.ev rfl) (by omega)) ?_
  refine Za ?_
  refine Zan ?_
  refine Zsm ?_
  refine Zm ?_
  refine Zy (d.sh.get ((i : Nat) : Int)) _ (fun _ fr _ => x_move rfl (fr.ev rfl)) ?_
  refine Zy (d.sh.get ((i : Nat) : Int)) (.int .i64 r) (fun _ fr _ => x_move rfl (fr.ev rfl)) ?_
  refine Zy (d.sh.get ((i : Nat) : Int)) _ (fun _ fr hg => x_neq rfl ((fr.ev rfl).trans (onlyIf_t hg)) ((fr.ev rfl).trans (onlyIf_t hg)) rfl) ?_
  refine Zv (.bool ((d.sh.get ((i : Nat) : Int)) && (decide (((i : Nat) : Int) ≠ r)))) (fun _ fr => x_pick_and rfl (fr.ev rfl) (fun hb => ((fr.ev rfl)).trans (onlyIf_t (by simp_all))) (fun _ => rfl) rfl) ?_
  refine Znn ?_
  refine Zcd (fun hc5 => ?_) (fun hc5 => ?_)
  ·have hc5s := hc5
   try simp at hc5s
   refine Zgm ?_
   refine Zm ?_
   intro a fr
   refine fx_build1v (E := intE) (p := ((i : Nat) : Int)) elInt (by decide) fr rfl rfl (by decide) rfl (fr.ev rfl) rfl ?_
   clear fr a
   intro A6 w7 hN8 O9 hA10
   intro a fr
   replace OL := OL.new hN8
   refine fx_append (E := intE) (l := othK d.sh r i) (l' := [((i : Nat) : Int)]) elInt fr rfl rfl (by decide) rfl (fr.ev rfl) (fr.ev rfl) (by first | rfl | (simp; done) | (simp; omega)) (by first | rfl | (simp; done) | (simp; omega)) OL O9.view (by simp; omega) (by first | (unfold maxLen; done) | (unfold maxLen; first | omega | (simp only [List.length_append, List.length_cons, List.length_nil]; omega) | (simp; done) | (simp; omega))) ?_
   clear fr a
   intro A11 cap12 w13 O14 hO15 mv16
   replace hF := hF.trNew hN8
   have gA_A11 := gA_moved hF mv16 gA_A1
   clear OL
   refine Za ?_
   refine Znl ?_
   refine Zbn ?_
   refine Zrg ?_
   refine Zv _ (fun _ fr => x_add rfl (fr.ev rfl) rfl (i64w (r := ((i + 1 : Nat) : Int)) (by omega) (by omega))) ?_
   refine Zm ?_
   intro a fr
   refine wpList_nil ?_
   refine fx_next ?_
   have hek := othK_t hc5
   rw [← hek] at fr O14
   replace hF := hF.locA hO15 gA_A1
   exact ⟨_, by omega, (i + 1), A11, cap12, rfl, fr.sub ⟨rfl, rfl, rfl, rfl, rfl, trivial⟩, hF, O14, by omega, gA_A11⟩
  ·have hc5s := hc5
   try simp at hc5s
   refine Zsk ?_
   refine Zbn ?_
   refine Zrg ?_
   refine Zv _ (fun _ fr => x_add rfl (fr.ev rfl) rfl (i64w (r := ((i + 1 : Nat) : Int)) (by omega) (by omega))) ?_
   refine Zm ?_
   intro a fr
   refine wpList_nil ?_
   refine fx_next ?_
   have hek := othK_f hc5
   rw [← hek] at fr OL
   exact ⟨_, by omega, (i + 1), A1, c1, rfl, fr.sub ⟨rfl, rfl, rfl, rfl, rfl, trivial⟩, hF, OL, by omega, gA_A1⟩
 ·have hc4 := of_decide_eq_false hc4
  refine Zex ?_
  refine Zxt ?_
  refine Zxt ?_
  refine Zxx ?_
  refine Znx ?_
  refine Zsm ?_
  refine Zar ?_
  refine Zre rfl [_] ⟨rfl, trivial⟩ ?_
  obtain rfl : i = 4 := by omega
  exact ⟨_, rfl, A1, c1, rfl, OL, fun g hg => (gA_A1 g hg).resolve_left (fun h => h), hF⟩
theorem send_n {w : World} {bw be bh bi ig cap r : Nat} {A : Option Addr} {ac : Nat} {line : Int} {out : List Msg} {bs : List UInt8} (hln : 0 ≤ line ∧ line < 4294967296) (hW : Blk w bw 176 #[.slice A out.length ac, .pointer (some ⟨be, 0, none⟩), .pointer (some ⟨bh, 0, none⟩), .int .u32 line]) (hH : Blk w bh 140 #[.pointer (some ⟨bi, 0, none⟩), .map (some r)]) (hI : Img 0 w bi ig cap bs) (hO : Own msgE w A ac out) (ne_bw_bh : NE bw bh) (ne_bw_bi : NE bw bi) (ne_bw_ig : NE bw ig) (ap_A_bw : Apart A bw) (ap_A_bh : Apart A bh) (ap_A_bi : Apart A bi) (ap_A_ig : Apart A ig) (hlen : out.length ≤ 1000000) (kind dst : Int) : Calls Try.prog 104 #[.pointer (some ⟨bw, 0, none⟩), .int .i64 kind, .int .i64 dst, .bool false] w (Ret fun v w' => v = .tuple #[] ∧ ∃ A' ac', Blk w' bw 176 #[.slice A' (out ++ [(mkM kind 4 dst line b16z hln)]).length ac', .pointer (some ⟨be, 0, none⟩), .pointer (some ⟨bh, 0, none⟩), .int .u32 line] ∧ Own msgE w' A' ac' (out ++ [(mkM kind 4 dst line b16z hln)]) ∧ (∀ k, inA A' k → inA A k ∨ w.heap.size ≤ k) ∧ Only (fun k => k = bw ∨ inA A k) w w') := by
 have gA_A : ∀ g, inA A g → (g = bw ∨ inA A g) ∨ w.heap.size ≤ g := fun g hg => .inl (.inr hg)
 have hF := Only.refl (fun k => k = bw ∨ inA A k) w
 refine Zen 45 Try.func104 ?_
 refine Zsm ?_
 refine Zmm ?_
 refine Zn ?_
 refine Zf fo176_3 ?_
 refine Zd (v := .int .u32 line) pl32 (hW.cell 3 rfl) ?_
 refine Zv (.agg (msgE.arr (mkM kind 4 dst line b16z hln))) (fun a fr => x_build (cells := msgE.arr (mkM kind 4 dst line b16z hln)) rfl (by simp only [List.map_toArray, List.map_cons, List.map_nil, show a.eval (.tmp 9) = .int .i64 kind from fr.ev rfl, show a.eval (.tmp 10) = .int .i64 dst from fr.ev rfl, show a.eval (.tmp 14) = .int .u32 line from fr.ev rfl]; kernel_rfl)) ?_
 refine Zna (z := zv3) (cs := msgE.arr msg0) (by kernel_rfl) fun b1 w2 hN3 B4 hb5 => ?_
 have ne_bw_b1 := nelt hW.lt hb5
 have ap_A_b1 := hO.apart hb5
 have g_b1 := hF.sz hb5
 refine ZsS sz35 (msgE.all _) B4 (msgE.size _) (msgE.size _) fun w6 hO7 B4 => ?_
 refine Znq ?_
 refine Zsm ?_
 refine Znf ?_
 refine Zkn ?_
 refine ZhT (n := 9) 9 (fun w => Blk w bw 176 #[.slice A out.length ac, .pointer (some ⟨be, 0, none⟩), .pointer (some ⟨bh, 0, none⟩), .int .u32 line] ∧ Blk w b1 35 (msgE.arr (mkM kind 4 dst line b16z hln)) ∧ True) ?_
 intro w8 hN9
 replace hW := ((hW.new hN3).only hO7 ne_bw_b1).new hN9
 replace B4 := B4.new hN9
 have hS9 := And.intro hW (And.intro B4 trivial)
 refine Zhm 0 hS9 ?_
 refine Zhm 1 hS9 ?_
 refine Zhc 2 hS9 ?_
 refine Zhf 3 fo176_0 hS9 ?_
 refine Zhf 4 fo174_0 hS9 ?_
 refine Zhl (v := .slice A out.length ac) 5 pl29 hS9 (fun _ ⟨hW, _⟩ => (hW.cell 0 rfl)) ?_
 refine ZhE 6 msgE ag35 hS9 (fun _ ⟨_, B4, _⟩ => (B4.rangeE msgE)) ?_
 refine Zh1 7 ?_
 intro a fr
 refine fx_build1 (E := msgE) (p := (mkM kind 4 dst line b16z hln)) elMsg (by decide) fr rfl rfl (by decide) rfl (fr.ev rfl) ?_
 clear fr a
 intro A10 w11 hN12 O13 hA14
 replace hW := hW.new hN12
 replace B4 := B4.new hN12
 refine Zhb ⟨hW, B4, trivial⟩ ?_
 refine Zh1 8 ?_
 intro a fr
 replace hO := (((hO.new hN3).only hO7 (Apart.ne1 ap_A_b1)).new hN9).new hN12
 refine fx_append (E := msgE) (l := out) (l' := [(mkM kind 4 dst line b16z hln)]) elMsg fr rfl rfl (by decide) rfl (fr.ev rfl) (fr.ev rfl) (by first | rfl | (simp; done) | (simp; omega)) (by first | rfl | (simp; done) | (simp; omega)) hO O13.view (by first | omega | (simp; omega)) (by first | (unfold maxLen; done) | (unfold maxLen; first | omega | (simp only [List.length_append, List.length_cons, List.length_nil]; omega) | (simp; done) | (simp; omega))) ?_
 clear fr a
 intro A15 cap16 w17 O18 hO19 mv20
 have ap_A15_bw : Apart A15 bw := moved_apart mv20 ap_A_bw hW.lt
 replace hF := (((hF.trNew hN3).loc hO7 (.inr g_b1)).trNew hN9).trNew hN12
 have gA_A15 := gA_moved hF mv20 gA_A
 clear hO
 replace hW := hW.only hO19 ap_A_bw
 replace B4 := B4.only hO19 ap_A_b1
 refine Zhb ⟨hW, B4, trivial⟩ ?_
 refine Zhn ?_
 refine Ztl ?_
 refine Zn ?_
 refine Zf fo176_0 ?_
 refine Zf fo174_0 ?_
 refine Zs1 (cs' := #[.slice A15 ((out ++ ([(mkM kind 4 dst line b16z hln)])).length) cap16, .pointer (some ⟨be, 0, none⟩), .pointer (some ⟨bh, 0, none⟩), .int .u32 line]) sz29 hW (show 0 < 4 by decide) rfl fun w21 hO22 hW => ?_
 refine Znl ?_
 refine Zee rfl [] trivial ?_
 replace hF := (hF.locA hO19 gA_A).loc hO22 (.inl (.inl rfl))
 replace O18 := O18.only hO22 (Apart.ne1 ap_A15_bw)
 exact ⟨_, rfl, rfl, A15, cap16, hW, O18, fun k hk => (gA_A15 k hk).elim (fun h => h.elim (fun e => absurd hk (e ▸ ap_A15_bw)) .inl) .inr, hF⟩
theorem send_b {w : World} {bw be bh bi ig cap r : Nat} {A : Option Addr} {ac : Nat} {line : Int} {out : List Msg} {bs : List UInt8} (hln : 0 ≤ line ∧ line < 4294967296) (hW : Blk w bw 176 #[.slice A out.length ac, .pointer (some ⟨be, 0, none⟩), .pointer (some ⟨bh, 0, none⟩), .int .u32 line]) (hH : Blk w bh 140 #[.pointer (some ⟨bi, 0, none⟩), .map (some r)]) (hI : Img 0 w bi ig cap bs) (hO : Own msgE w A ac out) (ne_bw_bh : NE bw bh) (ne_bw_bi : NE bw bi) (ne_bw_ig : NE bw ig) (ap_A_bw : Apart A bw) (ap_A_bh : Apart A bh) (ap_A_bi : Apart A bi) (ap_A_ig : Apart A ig) (hlen : out.length ≤ 1000000) (kind dst : Int) : Calls Try.prog 104 #[.pointer (some ⟨bw, 0, none⟩), .int .i64 kind, .int .i64 dst, .bool true] w (Ret fun v w' => v = .tuple #[] ∧ ∃ A' ac', Blk w' bw 176 #[.slice A' (out ++ [(mkM kind 4 dst line (lineB bs line) hln)]).length ac', .pointer (some ⟨be, 0, none⟩), .pointer (some ⟨bh, 0, none⟩), .int .u32 line] ∧ Own msgE w' A' ac' (out ++ [(mkM kind 4 dst line (lineB bs line) hln)]) ∧ (∀ k, inA A' k → inA A k ∨ w.heap.size ≤ k) ∧ Only (fun k => k = bw ∨ inA A k) w w') := by
 have gA_A : ∀ g, inA A g → (g = bw ∨ inA A g) ∨ w.heap.size ≤ g := fun g hg => .inl (.inr hg)
 have hF := Only.refl (fun k => k = bw ∨ inA A k) w
 refine Zen 45 Try.func104 ?_
 refine Zsm ?_
 refine Zmm ?_
 refine Zn ?_
 refine Zf fo176_3 ?_
 refine Zd (v := .int .u32 line) pl32 (hW.cell 3 rfl) ?_
 refine Zv (.agg (msgE.arr (mkM kind 4 dst line b16z hln))) (fun a fr => x_build (cells := msgE.arr (mkM kind 4 dst line b16z hln)) rfl (by simp only [List.map_toArray, List.map_cons, List.map_nil, show a.eval (.tmp 9) = .int .i64 kind from fr.ev rfl, show a.eval (.tmp 10) = .int .i64 dst from fr.ev rfl, show a.eval (.tmp 14) = .int .u32 line from fr.ev rfl]; kernel_rfl)) ?_
 refine Zna (z := zv3) (cs := msgE.arr msg0) (by kernel_rfl) fun b1 w2 hN3 B4 hb5 => ?_
 have ne_bw_b1 := nelt hW.lt hb5
 have ne_bh_b1 := nelt hH.lt hb5
 have ne_bi_b1 := nelt hI.lt.1 hb5
 have ne_ig_b1 := nelt hI.lt.2 hb5
 have ap_A_b1 := hO.apart hb5
 have g_b1 := hF.sz hb5
 refine ZsS sz35 (msgE.all _) B4 (msgE.size _) (msgE.size _) fun w6 hO7 B4 => ?_
 refine Znq ?_
 refine Zsm ?_
 refine Znt ?_
 refine Zhd (n := 17) (fun w => Blk w bw 176 #[.slice A out.length ac, .pointer (some ⟨be, 0, none⟩), .pointer (some ⟨bh, 0, none⟩), .int .u32 line] ∧ Blk w bh 140 #[.pointer (some ⟨bi, 0, none⟩), .map (some r)] ∧ True) ?_
 intro w8 hN9
 replace hW := ((hW.new hN3).only hO7 ne_bw_b1).new hN9
 replace hH := ((hH.new hN3).only hO7 ne_bh_b1).new hN9
 have hS9 := And.intro hW (And.intro hH trivial)
 refine Zhm 0 hS9 ?_
 refine Zhc 1 hS9 ?_
 refine Zhf 2 fo176_2 hS9 ?_
 refine Zhl 3 pl90 hS9 (fun _ ⟨hW, _⟩ => (hW.cell 2 rfl)) ?_
 refine Zhc 4 hS9 ?_
 refine Zhf 5 fo140_0 hS9 ?_
 refine Zhl 6 pl87 hS9 (fun _ ⟨_, hH, _⟩ => (hH.cell 0 rfl)) ?_
 refine Zhm 7 hS9 ?_
 refine Zhc 8 hS9 ?_
 refine Zhf 9 fo176_3 hS9 ?_
 refine Zhl (v := .int .u32 line) 10 pl32 hS9 (fun _ ⟨hW, _⟩ => (hW.cell 3 rfl)) ?_
 refine Zh1 11 ?_
 replace hI := ((hI.new hN3).only hO7 ne_bi_b1 ne_ig_b1).new hN9
 refine Zk (args := #[.pointer (some ⟨bi, 0, none⟩), .int .u32 line]) cf111 (hline_c line (by omega) hI) ?_
 rintro v w10 ⟨rfl, hN11⟩
 replace hW := hW.new hN11
 replace hH := hH.new hN11
 refine Zhb ⟨hW, hH, trivial⟩ ?_
 have hS9 := And.intro hW (And.intro hH trivial)
 refine Zhm 12 hS9 ?_
 refine Zhx 13 hS9 ?_
 refine Zhx 14 hS9 ?_
 refine Zhf 15 fo35_4 hS9 ?_
 refine Zh1 16 ?_
 intro a fr
 replace B4 := (B4.new hN9).new hN11
 refine fx_storePart (E := msgE) (E2 := bsE) (q := 4) (m := (mkM kind 4 dst line b16z hln)) (m' := { (mkM kind 4 dst line b16z hln) with bs := (lineB bs line) }) (z := (lineB bs line)) sz22 rfl rfl rfl (fr.ev rfl) (fr.ev rfl) B4 (by decide) (msg_setbs _ _) fun w12 hO13 hBq => ?_
 revert a
 replace B4 := hBq
 clear hBq
 replace hW := hW.only hO13 ne_bw_b1
 replace hH := hH.only hO13 ne_bh_b1
 refine Zhb ⟨hW, hH, trivial⟩ ?_
 refine Zhn ?_
 refine Znx ?_
 refine ZhT (n := 9) 9 (fun w => Blk w bw 176 #[.slice A out.length ac, .pointer (some ⟨be, 0, none⟩), .pointer (some ⟨bh, 0, none⟩), .int .u32 line] ∧ Blk w b1 35 (msgE.arr { (mkM kind 4 dst line b16z hln) with bs := (lineB bs line) }) ∧ True) ?_
 intro w14 hN15
 replace hW := hW.new hN15
 replace B4 := B4.new hN15
 have hS9 := And.intro hW (And.intro B4 trivial)
 refine Zhm 0 hS9 ?_
 refine Zhm 1 hS9 ?_
 refine Zhc 2 hS9 ?_
 refine Zhf 3 fo176_0 hS9 ?_
 refine Zhf 4 fo174_0 hS9 ?_
 refine Zhl (v := .slice A out.length ac) 5 pl29 hS9 (fun _ ⟨hW, _⟩ => (hW.cell 0 rfl)) ?_
 refine ZhE 6 msgE ag35 hS9 (fun _ ⟨_, B4, _⟩ => (B4.rangeE msgE)) ?_
 refine Zh1 7 ?_
 intro a fr
 refine fx_build1 (E := msgE) (p := { (mkM kind 4 dst line b16z hln) with bs := (lineB bs line) }) elMsg (by decide) fr rfl rfl (by decide) rfl (fr.ev rfl) ?_
 clear fr a
 intro A16 w17 hN18 O19 hA20
 replace hW := hW.new hN18
 replace B4 := B4.new hN18
 refine Zhb ⟨hW, B4, trivial⟩ ?_
 refine Zh1 8 ?_
 intro a fr
 replace hO := ((((((hO.new hN3).only hO7 (Apart.ne1 ap_A_b1)).new hN9).new hN11).only hO13 (Apart.ne1 ap_A_b1)).new hN15).new hN18
 refine fx_append (E := msgE) (l := out) (l' := [{ (mkM kind 4 dst line b16z hln) with bs := (lineB bs line) }]) elMsg fr rfl rfl (by decide) rfl (fr.ev rfl) (fr.ev rfl) (by first | rfl | (simp; done) | (simp; omega)) (by first | rfl | (simp; done) | (simp; omega)) hO O19.view (by first | omega | (simp; omega)) (by first | (unfold maxLen; done) | (unfold maxLen; first | omega | (simp only [List.length_append, List.length_cons, List.length_nil]; omega) | (simp; done) | (simp; omega))) ?_
 clear fr a
 intro A21 cap22 w23 O24 hO25 mv26
 have ap_A21_bw : Apart A21 bw := moved_apart mv26 ap_A_bw hW.lt
 replace hF := ((((((hF.trNew hN3).loc hO7 (.inr g_b1)).trNew hN9).trNew hN11).loc hO13 (.inr g_b1)).trNew hN15).trNew hN18
 have gA_A21 := gA_moved hF mv26 gA_A
 clear hO
 replace hW := hW.only hO25 ap_A_bw
 replace B4 := B4.only hO25 ap_A_b1
 refine Zhb ⟨hW, B4, trivial⟩ ?_
 refine Zhn ?_
 refine Ztl ?_
 refine Zn ?_
 refine Zf fo176_0 ?_
 refine Zf fo174_0 ?_
 refine Zs1 (cs' := #[.slice A21 ((out ++ ([{ (mkM kind 4 dst line b16z hln) with bs := (lineB bs line) }])).length) cap22, .pointer (some ⟨be, 0, none⟩), .pointer (some ⟨bh, 0, none⟩), .int .u32 line]) sz29 hW (show 0 < 4 by decide) rfl fun w27 hO28 hW => ?_
 refine Znl ?_
 refine Zee rfl [] trivial ?_
 replace hF := (hF.locA hO25 gA_A).loc hO28 (.inl (.inl rfl))
 replace O24 := O24.only hO28 (Apart.ne1 ap_A21_bw)
 exact ⟨_, rfl, rfl, A21, cap22, hW, O24, fun k hk => (gA_A21 k hk).elim (fun h => h.elim (fun e => absurd hk (e ▸ ap_A21_bw)) .inl) .inr, hF⟩
end Go.Proofs.Ytflnlmibkbojcaa
