/-
  Part 6 of what the claim stands on: walks through the code, plain laws.
-/
import Derived.Test.YtflnlmibkbojcaaZEnds5
set_option maxRecDepth 100000
set_option maxHeartbeats 4000000
namespace Go.Proofs.Ytflnlmibkbojcaa
open Go.RowKit
theorem mod_c (p : Int) (n : Nat) (h1 : 1 ≤ n) (hn : n ≤ 1000000) (w : World) : Calls Try.prog 40 #[.int .i64 p, .int .i64 ((n : Nat) : Int)] w (Ret fun v w' => v = .int .i64 ((pickAt p n : Nat) : Int) ∧ w' = w) := by
 have hbd := tmod_bd p n h1
 have h1n : ¬ ((n : Nat) : Int) < 1 := by omega
 refine Zen 17 Try.func40 ?_
 refine Zsr ?_
 refine Zaq ?_
 refine Zsm ?_
 refine Zv (.bool false) (fun _ fr => x_lss rfl (fr.ev rfl) rfl (decide_eq_false h1n)) ?_
 refine Znf ?_
 refine Zkn ?_
 refine Zsm ?_
 refine Zm ?_
 refine Zv (.int .i64 (Int.tmod p ((n : Nat) : Int))) (fun _ fr => x_rem rfl (fr.ev rfl) (fr.ev rfl) (by omega) rfl) ?_
 refine Zaq ?_
 refine Zsm ?_
 refine Zv _ (fun _ fr => x_lss rfl (fr.ev rfl) rfl rfl) ?_
 refine Znn ?_
 refine Zcd (fun hc1 => ?_) (fun hc1 => ?_)
 ·have hc1 := of_decide_eq_true hc1
  refine Zgm ?_
  refine Zm ?_
  refine Zv _ (fun _ fr => x_add rfl (fr.ev rfl) (fr.ev rfl) (i64w (r := Int.tmod p ((n : Nat) : Int) + ((n : Nat) : Int)) (by omega) (by omega))) ?_
  refine Zan ?_
  refine Zsm ?_
  refine Zar ?_
  refine Zre rfl [_] ⟨rfl, trivial⟩ ?_
  exact ⟨_, rfl, congrArg (Value.int .i64) (pick_neg (by omega) hc1), rfl⟩
 ·have hc1 := of_decide_eq_false hc1
  refine Zkn ?_
  refine Zsm ?_
  refine Zar ?_
  refine Zre rfl [_] ⟨rfl, trivial⟩ ?_
  exact ⟨_, rfl, congrArg (Value.int .i64) (pick_pos (by omega) hc1), rfl⟩
theorem act_k0 {w : World} {Fp : Nat → Prop} {b bh : Nat} {s : RS} (H : RunAt w Fp b bh s) {k : Nat} (r : RI k s) (hk : k ≤ 10000) (ac : Ac) (h0 : ac.kind = 0) : Calls Try.prog 37 #[.pointer (some ⟨b, 0, none⟩), .agg (acE.arr ac)] w (Ret fun v w' => v = .tuple #[] ∧ ∃ Fp', RunAt w' Fp' b bh (actF s ac) ∧ Only Fp w w' ∧ ∀ g, Fp' g → Fp g ∨ w.heap.size ≤ g) := by
 obtain ⟨cs, h, way, last, bad⟩ := s
 obtain rfl : bad = false := r.bad
 have hl16 : last.length = 16 := r.len
 have hcl := run_cs_len r
 have hfw := run_few r
 change way.length ≤ 400 at hfw
 change 1 ≤ cs.length ∧ cs.length ≤ 4 at hcl
 obtain ⟨A, cap, ps, W, wc, FpC, FpH, RB, OP, HC, HH, OW, ⟨ap_A_b, ap_W_b, ap_FpC_b, ap_FpH_b, ap2_A_W, ap2_A_FpC, ap2_A_FpH, ap2_W_FpC, ap2_W_FpH, ap2_FpC_FpH, hfoot⟩⟩ := H
 have hpl : ps.length = cs.length := HC.len
 replace RB : Blk w b 97 (runA A ps.length cap bh W way.length wc last false) := RB
 replace HC : CachesAt w FpC ps cs := HC
 replace HH : HomeAt w FpH bh h := HH
 replace OW : Own msgE w W wc way := OW
 have hOl := OP.len
 have hWl := OW.len
 unfold maxLen at hOl hWl
 have gA_A : ∀ g, inA A g → Fp g ∨ w.heap.size ≤ g := fun g hg => .inl ((hfoot g).2 (.inr (.inl hg)))
 have gA_W : ∀ g, inA W g → Fp g ∨ w.heap.size ≤ g := fun g hg => .inl ((hfoot g).2 (.inr (.inr (.inl hg))))
 have gA_FpC : ∀ g, FpC g → Fp g ∨ w.heap.size ≤ g := fun g hg => .inl ((hfoot g).2 (.inr (.inr (.inr (.inl hg)))))
 have gA_FpH : ∀ g, FpH g → Fp g ∨ w.heap.size ≤ g := fun g hg => .inl ((hfoot g).2 (.inr (.inr (.inr (.inr hg)))))
 have hpk : ∀ p n, 1 ≤ n → pickAt p n < n := fun p n h => pickAt_lt p n h
 rw [hpl] at RB
 have hpc := hpk ac.cache cs.length hcl.1
 have hF := Only.refl (Fp) w
 refine Zen 218 Try.func37 ?_
 refine Zsr ?_
 refine Znb (cs := acE.arr ac) fun b1 w2 hN3 B4 hb5 => ?_
 refine Znq ?_
 refine ZhT (n := 8) 8 (fun w => Blk w b 97 (runA A cs.length cap bh W way.length wc last false) ∧ Blk w b1 100 (acE.arr ac) ∧ True) ?_
 intro w6 hN7
 replace RB := (RB.new hN3).new hN7
 replace B4 := B4.new hN7
 have hS9 := And.intro RB (And.intro B4 trivial)
 refine Zhf 0 fo100_1 hS9 ?_
 refine Zhl (v := .int .i64 ac.cache) 1 pl3 hS9 (fun _ ⟨_, B4, _⟩ => (B4.cell 1 rfl)) ?_
 refine Zhm 2 hS9 ?_
 refine Zhc 3 hS9 ?_
 refine Zhf 4 fo97_0 hS9 ?_
 refine Zhl (v := .slice A cs.length cap) 5 pl94 hS9 (fun _ ⟨RB, _⟩ => (RB.cell 0 rfl)) ?_
 refine Zht 6 rfl _ hS9 (fun _ fr _ _ => x_len Try.underlying94 rfl (fr.ev rfl)) ?_
 refine Zh1 7 ?_
 refine Zk (args := #[.int .i64 ac.cache, .int .i64 ((cs.length : Nat) : Int)]) cf40 (mod_c ac.cache cs.length (by omega) (by omega) _) ?_
 rintro v w9 ⟨rfl, hw9⟩
 obtain rfl := hw9.symm
 refine Zhb ⟨RB, B4, trivial⟩ ?_
 refine Zhn ?_
 refine Ztl ?_
 refine Zan ?_
 refine Zsm ?_
 refine Zn ?_
 refine Zf fo97_0 ?_
 refine Zd (v := .slice A cs.length cap) pl94 (RB.cell 0 rfl) ?_
 refine Zm ?_
 have hpc := hpk ac.cache ps.length (by omega)
 replace OP := (OP.new hN3).new hN7
 obtain ⟨g10, o11, hA12⟩ := (OP.view).some_ (by first | omega | decide)
 refine Zv (.pointer (some ⟨g10, o11 + (pickAt ac.cache cs.length) * 1, none⟩)) (fun _ fr => x_indexV Try.underlying94 sz25 rfl (fr.ev rfl) hA12 (fr.ev rfl) (by first | omega | decide) rfl) ?_
 refine Zd pl25 (range_cell ((OP.view).elem hA12 (pickAt ac.cache cs.length) 0 (by first | omega | decide)) 0 rfl rfl) ?_
 refine Zan ?_
 refine Zsr ?_
 refine Zf fo100_3 ?_
 refine Zd (v := .int .u32 ac.addr) pl32 (B4.cell 3 rfl) ?_
 refine Zv _ (fun _ fr => x_rem rfl (fr.ev rfl) rfl (by decide) (wd_rem ac)) ?_
 refine Zv (.int .i64 ((wd ac : Nat) : Int)) (fun _ fr => x_convert Try.underlying32 Try.underlying3 rfl (fr.ev rfl) (i64w (r := ((wd ac : Nat) : Int)) rfl (by have := wd_lt ac; omega))) ?_
 refine Zan ?_
 refine Zsm ?_
 refine Zv (.int .i64 ((4 * wd ac : Nat) : Int)) (fun _ fr => x_mul rfl rfl (fr.ev rfl) (i64w (r := ((4 * wd ac : Nat) : Int)) (by omega) (by have := wd_lt ac; omega))) ?_
 refine Zv _ (fun _ fr => x_convert Try.underlying3 Try.underlying32 rfl (fr.ev rfl) (u32w (ad_eq ac) (ad_bd' ac))) ?_
 refine Zan ?_
 refine Zsr ?_
 refine Zf fo100_0 ?_
 refine Zd (v := .int .i64 ac.kind) pl3 (B4.cell 0 rfl) ?_
 refine Znn ?_
 refine Zbl ?_
 refine Zsr ?_
 refine Zv (.bool true) (fun _ fr => x_eql rfl (fr.ev rfl) rfl (decide_eq_true (by omega))) ?_
 refine Zan ?_
 refine Zct ?_
 refine Zsm ?_
 refine Zm ?_
 replace HC := (HC.new hN3).new hN7
 refine Zk (args := #[.pointer (some ⟨(ps.getD (pickAt ac.cache cs.length) 0), 0, none⟩), .int .u32 (ad ac), .int .i64 4]) cf17 (cs_read HC (i := (pickAt ac.cache cs.length)) (by have := hpk ac.cache cs.length hcl.1; omega) (ad ac) (ad_bd' _) 4) ?_
 rintro v w13 ⟨rfl, hN14⟩
 refine Zm ?_
 refine Ztt ?_
 refine Za ?_
 refine Zaq ?_
 refine Zsq ?_
 rcases Decidable.em ((readF (cs.getD (pickAt ac.cache cs.length) cd0).L (ad ac) 4).2 = 0) with hz | hz
 ·have hv : (readF (cs.getD (pickAt ac.cache cs.length) cd0).L (ad ac) 4).1 = last.getD (wd ac) 0 := (run_hit r ac hz).1
  refine Zgm ?_
  refine Zv (.bool true) (fun _ fr => x_eql rfl (fr.ev rfl) rfl (decide_eq_true (by omega))) ?_
  refine Zmm ?_
  refine Zmm ?_
  refine Zn ?_
  refine Zf fo97_3 ?_
  refine Zv (.pointer (some ⟨b, 3 + (wd ac), none⟩)) (fun _ fr => x_indexArr Try.underlying95 sz16 rfl (fr.ev rfl) (fr.ev rfl) (wd_lt _) (by omega)) ?_
  replace RB := RB.new hN14
  refine Zd (v := .int .u32 (last.getD (wd ac) 0)) pl32 (RB.cell _ (run_last (by rw [hl16]; exact (wd_lt _)))) ?_
  refine Zv (.bool false) (fun _ fr => x_neq rfl (fr.ev rfl) (fr.ev rfl) (by first | (exact decide_eq_false (fun hn => hn hv)) | simp [hv])) ?_
  refine Zpt ?_
  refine Znf ?_
  refine Zkn ?_
  refine Zsm ?_
  refine Zv (.bool false) (fun _ fr => x_neq rfl (fr.ev rfl) rfl (decide_eq_false (by omega))) ?_
  refine Znf ?_
  refine Zsk ?_
  refine Zb ?_
  refine Zee rfl [] trivial ?_
  have hE : actF (RS.mk cs h way last false) ac = (RS.mk cs h way last false) := (act_0 h0).trans (run_hit r ac hz).2
  rw [hE]
  replace HH := ((HH.new hN3).new hN7).new hN14
  replace OW := ((OW.new hN3).new hN7).new hN14
  replace OP := OP.new hN14
  replace HC := HC.new hN14
  have hrun : RunAt w13 (fun g => g = b ∨ inA A g ∨ inA W g ∨ FpC g ∨ FpH g) b bh (RS.mk cs h way last false) := ⟨A, cap, ps, W, wc, FpC, FpH, (by rw [hpl]; exact RB), OP, HC, HH, OW, ⟨ap_A_b, ap_W_b, ap_FpC_b, ap_FpH_b, ap2_A_W, ap2_A_FpC, ap2_A_FpH, ap2_W_FpC, ap2_W_FpH, ap2_FpC_FpH, fun _ => Iff.rfl⟩⟩
  replace hF := ((hF.trNew hN3).trNew hN7).trNew hN14
  exact ⟨_, rfl, rfl, _, hrun, hF, fun g hg => by rcases hg with rfl | hg | hg | hg | hg; exact (.inl ((hfoot _).2 (.inl rfl))); exact gA_A g hg; exact gA_W g hg; exact gA_FpC g hg; exact gA_FpH g hg⟩
 ·refine Zgm ?_
  refine Zv (.bool false) (fun _ fr => x_eql rfl (fr.ev rfl) rfl (decide_eq_false hz)) ?_
  refine Zm ?_
  refine Zss ?_
  refine Zss ?_
  refine Zss ?_
  refine Zss ?_
  refine Zpf ?_
  refine Znf ?_
  refine Zkn ?_
  refine Zsm ?_
  refine Zv (.bool true) (fun _ fr => x_neq rfl (fr.ev rfl) rfl (by first | (exact decide_eq_true hz) | simp [hz])) ?_
  refine Znt ?_
  refine Zsm ?_
  refine Zm ?_
  refine Zv _ (fun _ fr => x_quo rfl (fr.ev rfl) rfl (by decide) (u32w (ad_quo ac) (ad_line ac))) ?_
  refine Zf fo100_2 ?_
  replace B4 := B4.new hN14
  refine Zd (v := .int .i64 ac.pick) pl3 (B4.cell 2 rfl) ?_
  replace HC := HC.new hN14
  refine Zk (args := #[.pointer (some ⟨(ps.getD (pickAt ac.cache cs.length) 0), 0, none⟩), .int .u32 (ad ac / 16), .bool false, .int .i64 ac.pick]) cf13 (cs_ask HC (i := (pickAt ac.cache cs.length)) (by have := hpk ac.cache cs.length hcl.1; omega) (ad ac / 16) (ad_line ac) false ac.pick) ?_
  rintro v w23 ⟨A18, cap19, rfl, O20, hA21, FpC15, HC16, hN24, mv17, hap22⟩
  replace RB := RB.new hN14
  have ap_FpC15_b : ¬ FpC15 b := moved_apartP mv17 ap_FpC_b RB.lt
  replace OP := OP.new hN14
  have ap2_FpC15_A : ∀ k, FpC15 k → inA A k → False := moved_apart2P mv17 (symP ap2_A_FpC) fun _ hg => OP.lt hg
  replace HH := ((HH.new hN3).new hN7).new hN14
  have ap2_FpC15_FpH : ∀ k, FpC15 k → FpH k → False := moved_apart2P mv17 ap2_FpC_FpH fun _ hg => HH.lt hg
  replace OW := ((OW.new hN3).new hN7).new hN14
  have ap2_FpC15_W : ∀ k, FpC15 k → inA W k → False := moved_apart2P mv17 (symP ap2_W_FpC) fun _ hg => OW.lt hg
  replace hF := ((hF.trNew hN3).trNew hN7).trNew hN14
  have gA_FpC15 := gA_movedP hF mv17 gA_FpC
  clear HC
  refine Zm ?_
  refine Ztt ?_
  refine Za ?_
  refine Zan ?_
  have hfa : (way ++ (askF (cs.getD (pickAt ac.cache cs.length) cd0) (ad ac / 16) (ad_line ac) false ac.pick).2.1).length ≤ 400 := run_few (r.askA ac false)
  rw [List.length_append] at hfa
  refine Zgm ?_
  refine Zm ?_
  refine Zn ?_
  refine Zf fo97_2 ?_
  replace RB := RB.only hN24 ap_FpC_b
  refine Zd (v := .slice W way.length wc) pl29 (RB.cell 2 rfl) ?_
  refine Zm ?_
  intro a fr
  replace OW := OW.only hN24 (fun g h1 h2 => ap2_W_FpC g h1 h2)
  refine fx_append (E := msgE) (l := way) (l' := (askF (cs.getD (pickAt ac.cache cs.length) cd0) (ad ac / 16) (ad_line ac) false ac.pick).2.1) elMsg fr rfl rfl (by decide) rfl (fr.ev rfl) (fr.ev rfl) (by first | rfl | (simp; done) | (simp; omega)) (by first | rfl | (simp; done) | (simp; omega)) OW O20.view (by simp only [List.length_append] at *; omega) (by first | (unfold maxLen; done) | (unfold maxLen; first | omega | (simp only [List.length_append, List.length_cons, List.length_nil]; omega) | (simp; done) | (simp; omega))) ?_
  clear fr a
  intro A25 cap26 w27 O28 hO29 mv30
  have ap_A25_b : Apart A25 b := moved_apart mv30 ap_W_b RB.lt
  replace OP := OP.only hN24 (fun g h1 h2 => ap2_A_FpC g h1 h2)
  have ap2_A25_A : Apart2 A25 A := moved_apart2 mv30 ap2_A_W.symm fun _ hg => OP.lt hg
  replace HH := HH.only hN24 (fun g h1 h2 => (symP ap2_FpC_FpH) g h1 h2)
  have ap2_A25_FpH : ∀ k, inA A25 k → FpH k → False := moved_apart2P mv30 ap2_W_FpH fun _ hg => HH.lt hg
  have ap2_A25_FpC15 : ∀ k, inA A25 k → FpC15 k → False := moved_apart2P mv30 (symP ap2_FpC15_W) fun _ hg => HC16.lt hg
  replace hF := hF.locP hN24 gA_FpC
  have gA_A25 := gA_moved hF mv30 gA_W
  clear OW
  refine Zn ?_
  refine Zf fo97_2 ?_
  replace RB := RB.only hO29 ap_W_b
  refine Zs1 (cs' := runA A cs.length cap bh A25 ((way ++ ((askF (cs.getD (pickAt ac.cache cs.length) cd0) (ad ac / 16) (ad_line ac) false ac.pick).2.1)).length) cap26 last false) sz29 RB (by rw [run_size, hl16]; decide) run_setW fun w31 hO32 RB => ?_
  refine Znl ?_
  refine Zb ?_
  refine Zee rfl [] trivial ?_
  have hE : actF (RS.mk cs h way last false) ac = (RS.mk (cs.set (pickAt ac.cache cs.length) (askF (cs.getD (pickAt ac.cache cs.length) cd0) (ad ac / 16) (ad_line ac) false ac.pick).1) h (way ++ ((askF (cs.getD (pickAt ac.cache cs.length) cd0) (ad ac / 16) (ad_line ac) false ac.pick).2.1)) last false) := (act_0 h0).trans (if_neg hz)
  rw [hE]
  replace OP := (OP.only hO29 (fun g h1 h2 => ap2_A_W g h1 h2)).only hO32 (Apart.ne1 ap_A_b)
  replace HH := (HH.only hO29 (fun g h1 h2 => (symP ap2_W_FpH) g h1 h2)).only hO32 (ne1P ap_FpH_b)
  replace HC16 := (HC16.only hO29 (fun g h1 h2 => ap2_FpC15_W g h1 h2)).only hO32 (ne1P ap_FpC15_b)
  replace O28 := O28.only hO32 (Apart.ne1 ap_A25_b)
  have hrun : RunAt w31 (fun g => g = b ∨ inA A g ∨ inA A25 g ∨ FpC15 g ∨ FpH g) b bh (RS.mk (cs.set (pickAt ac.cache cs.length) (askF (cs.getD (pickAt ac.cache cs.length) cd0) (ad ac / 16) (ad_line ac) false ac.pick).1) h (way ++ ((askF (cs.getD (pickAt ac.cache cs.length) cd0) (ad ac / 16) (ad_line ac) false ac.pick).2.1)) last false) := ⟨A, cap, ps, A25, cap26, FpC15, FpH, (by rw [hpl]; exact RB), OP, HC16, HH, O28, ⟨ap_A_b, ap_A25_b, ap_FpC15_b, ap_FpH_b, ap2_A25_A.symm, (symP ap2_FpC15_A), ap2_A_FpH, ap2_A25_FpC15, ap2_A25_FpH, ap2_FpC15_FpH, fun _ => Iff.rfl⟩⟩
  replace hF := (hF.locA hO29 gA_W).loc hO32 (.inl ((hfoot _).2 (.inl rfl)))
  exact ⟨_, rfl, rfl, _, hrun, hF, fun g hg => by rcases hg with rfl | hg | hg | hg | hg; exact (.inl ((hfoot _).2 (.inl rfl))); exact gA_A g hg; exact gA_A25 g hg; exact gA_FpC15 g hg; exact gA_FpH g hg⟩
theorem act_k1 {w : World} {Fp : Nat → Prop} {b bh : Nat} {s : RS} (H : RunAt w Fp b bh s) {k : Nat} (r : RI k s) (hk : k ≤ 10000) (ac : Ac) (h0 : ac.kind = 1) : Calls Try.prog 37 #[.pointer (some ⟨b, 0, none⟩), .agg (acE.arr ac)] w (Ret fun v w' => v = .tuple #[] ∧ ∃ Fp', RunAt w' Fp' b bh (actF s ac) ∧ Only Fp w w' ∧ ∀ g, Fp' g → Fp g ∨ w.heap.size ≤ g) := by
 obtain ⟨cs, h, way, last, bad⟩ := s
 obtain rfl : bad = false := r.bad
 have hl16 : last.length = 16 := r.len
 have hcl := run_cs_len r
 have hfw := run_few r
 change way.length ≤ 400 at hfw
 change 1 ≤ cs.length ∧ cs.length ≤ 4 at hcl
 obtain ⟨A, cap, ps, W, wc, FpC, FpH, RB, OP, HC, HH, OW, ⟨ap_A_b, ap_W_b, ap_FpC_b, ap_FpH_b, ap2_A_W, ap2_A_FpC, ap2_A_FpH, ap2_W_FpC, ap2_W_FpH, ap2_FpC_FpH, hfoot⟩⟩ := H
 have hpl : ps.length = cs.length := HC.len
 replace RB : Blk w b 97 (runA A ps.length cap bh W way.length wc last false) := RB
 replace HC : CachesAt w FpC ps cs := HC
 replace HH : HomeAt w FpH bh h := HH
 replace OW : Own msgE w W wc way := OW
 have hOl := OP.len
 have hWl := OW.len
 unfold maxLen at hOl hWl
 have gA_A : ∀ g, inA A g → Fp g ∨ w.heap.size ≤ g := fun g hg => .inl ((hfoot g).2 (.inr (.inl hg)))
 have gA_W : ∀ g, inA W g → Fp g ∨ w.heap.size ≤ g := fun g hg => .inl ((hfoot g).2 (.inr (.inr (.inl hg))))
 have gA_FpC : ∀ g, FpC g → Fp g ∨ w.heap.size ≤ g := fun g hg => .inl ((hfoot g).2 (.inr (.inr (.inr (.inl hg)))))
 have gA_FpH : ∀ g, FpH g → Fp g ∨ w.heap.size ≤ g := fun g hg => .inl ((hfoot g).2 (.inr (.inr (.inr (.inr hg)))))
 have hpk : ∀ p n, 1 ≤ n → pickAt p n < n := fun p n h => pickAt_lt p n h
 rw [hpl] at RB
 have hpc := hpk ac.cache cs.length hcl.1
 have hF := Only.refl (Fp) w
 refine Zen 218 Try.func37 ?_
 refine Zsr ?_
 refine Znb (cs := acE.arr ac) fun b1 w2 hN3 B4 hb5 => ?_
 have ne_b_b1 := nelt RB.lt hb5
 have ap_FpC_b1 := HC.apart hb5
 refine Znq ?_
 refine ZhT (n := 8) 8 (fun w => Blk w b 97 (runA A cs.length cap bh W way.length wc last false) ∧ Blk w b1 100 (acE.arr ac) ∧ True) ?_
 intro w6 hN7
 replace RB := (RB.new hN3).new hN7
 replace B4 := B4.new hN7
 have hS9 := And.intro RB (And.intro B4 trivial)
 refine Zhf 0 fo100_1 hS9 ?_
 refine Zhl (v := .int .i64 ac.cache) 1 pl3 hS9 (fun _ ⟨_, B4, _⟩ => (B4.cell 1 rfl)) ?_
 refine Zhm 2 hS9 ?_
 refine Zhc 3 hS9 ?_
 refine Zhf 4 fo97_0 hS9 ?_
 refine Zhl (v := .slice A cs.length cap) 5 pl94 hS9 (fun _ ⟨RB, _⟩ => (RB.cell 0 rfl)) ?_
 refine Zht 6 rfl _ hS9 (fun _ fr _ _ => x_len Try.underlying94 rfl (fr.ev rfl)) ?_
 refine Zh1 7 ?_
 refine Zk (args := #[.int .i64 ac.cache, .int .i64 ((cs.length : Nat) : Int)]) cf40 (mod_c ac.cache cs.length (by omega) (by omega) _) ?_
 rintro v w9 ⟨rfl, hw9⟩
 obtain rfl := hw9.symm
 refine Zhb ⟨RB, B4, trivial⟩ ?_
 refine Zhn ?_
 refine Ztl ?_
 refine Zan ?_
 refine Zsm ?_
 refine Zn ?_
 refine Zf fo97_0 ?_
 refine Zd (v := .slice A cs.length cap) pl94 (RB.cell 0 rfl) ?_
 refine Zm ?_
 have hpc := hpk ac.cache ps.length (by omega)
 replace OP := (OP.new hN3).new hN7
 obtain ⟨g10, o11, hA12⟩ := (OP.view).some_ (by first | omega | decide)
 refine Zv (.pointer (some ⟨g10, o11 + (pickAt ac.cache cs.length) * 1, none⟩)) (fun _ fr => x_indexV Try.underlying94 sz25 rfl (fr.ev rfl) hA12 (fr.ev rfl) (by first | omega | decide) rfl) ?_
 refine Zd pl25 (range_cell ((OP.view).elem hA12 (pickAt ac.cache cs.length) 0 (by first | omega | decide)) 0 rfl rfl) ?_
 refine Zan ?_
 refine Zsr ?_
 refine Zf fo100_3 ?_
 refine Zd (v := .int .u32 ac.addr) pl32 (B4.cell 3 rfl) ?_
 refine Zv _ (fun _ fr => x_rem rfl (fr.ev rfl) rfl (by decide) (wd_rem ac)) ?_
 refine Zv (.int .i64 ((wd ac : Nat) : Int)) (fun _ fr => x_convert Try.underlying32 Try.underlying3 rfl (fr.ev rfl) (i64w (r := ((wd ac : Nat) : Int)) rfl (by have := wd_lt ac; omega))) ?_
 refine Zan ?_
 refine Zsm ?_
 refine Zv (.int .i64 ((4 * wd ac : Nat) : Int)) (fun _ fr => x_mul rfl rfl (fr.ev rfl) (i64w (r := ((4 * wd ac : Nat) : Int)) (by omega) (by have := wd_lt ac; omega))) ?_
 refine Zv _ (fun _ fr => x_convert Try.underlying3 Try.underlying32 rfl (fr.ev rfl) (u32w (ad_eq ac) (ad_bd' ac))) ?_
 refine Zan ?_
 refine Zsr ?_
 refine Zf fo100_0 ?_
 refine Zd (v := .int .i64 ac.kind) pl3 (B4.cell 0 rfl) ?_
 refine Znn ?_
 refine Zbl ?_
 refine Zsr ?_
 refine Zv (.bool false) (fun _ fr => x_eql rfl (fr.ev rfl) rfl (decide_eq_false (by omega))) ?_
 refine Zan ?_
 refine Zcf ?_
 refine Zsr ?_
 refine Zv (.bool true) (fun _ fr => x_eql rfl (fr.ev rfl) rfl (decide_eq_true (by omega))) ?_
 refine Zan ?_
 refine Zct ?_
 refine Zsm ?_
 refine Zm ?_
 refine Zf fo100_4 ?_
 refine Zd (v := .int .u32 ac.val) pl32 (B4.cell 4 rfl) ?_
 replace HC := (HC.new hN3).new hN7
 refine Zk (args := #[.pointer (some ⟨(ps.getD (pickAt ac.cache cs.length) 0), 0, none⟩), .int .u32 (ad ac), .int .i64 4, .int .u32 ac.val]) cf15 (cs_write HC (i := (pickAt ac.cache cs.length)) (by have := hpk ac.cache cs.length hcl.1; omega) (ad ac) (ad_bd' _) 4 ac.val) ?_
 rintro v w16 ⟨rfl, FpC13, HC14, hN17, mv15⟩
 have ap_FpC13_b : ¬ FpC13 b := moved_apartP mv15 ap_FpC_b RB.lt
 have ap2_FpC13_A : ∀ k, FpC13 k → inA A k → False := moved_apart2P mv15 (symP ap2_A_FpC) fun _ hg => OP.lt hg
 replace HH := (HH.new hN3).new hN7
 have ap2_FpC13_FpH : ∀ k, FpC13 k → FpH k → False := moved_apart2P mv15 ap2_FpC_FpH fun _ hg => HH.lt hg
 replace OW := (OW.new hN3).new hN7
 have ap2_FpC13_W : ∀ k, FpC13 k → inA W k → False := moved_apart2P mv15 (symP ap2_W_FpC) fun _ hg => OW.lt hg
 replace hF := (hF.trNew hN3).trNew hN7
 have gA_FpC13 := gA_movedP hF mv15 gA_FpC
 clear HC
 refine Zv _ (fun _ fr => x_eql rfl (fr.ev rfl) rfl rfl) ?_
 refine Znn ?_
 refine Zcd (fun hc18 => ?_) (fun hc18 => ?_)
 ·have hc18 := of_decide_eq_true hc18
  refine Zhd (n := 8) (fun w => Blk w b1 100 (acE.arr ac) ∧ True) ?_
  intro w19 hN20
  replace B4 := (B4.only hN17 ap_FpC_b1).new hN20
  have hS9 := And.intro B4 trivial
  refine Zhm 0 hS9 ?_
  refine Zhm 1 hS9 ?_
  refine Zhf 2 fo100_4 hS9 ?_
  refine Zhl (v := .int .u32 ac.val) 3 pl32 hS9 (fun _ ⟨B4, _⟩ => (B4.cell 4 rfl)) ?_
  refine Zhc 4 hS9 ?_
  refine Zhf 5 fo97_3 hS9 ?_
  refine Zht 6 rfl (.pointer (some ⟨b, 3 + (wd ac), none⟩)) hS9 (fun _ fr _ _ => x_indexArr Try.underlying95 sz16 rfl (fr.ev rfl) (fr.ev rfl) (wd_lt _) (by omega)) ?_
  refine Zh1 7 ?_
  replace RB := (RB.only hN17 ap_FpC_b).new hN20
  refine Zs1 (cs' := runA A cs.length cap bh W way.length wc (last.set (wd ac) ac.val) false) sz32 RB (by rw [run_size, hl16]; have : wd ac < 16 := (wd_lt _); omega) (run_setL (by rw [hl16]; exact (wd_lt _))) fun w21 hO22 RB => ?_
  replace B4 := B4.only hO22 ne_b_b1.symm
  refine Zhb ⟨B4, trivial⟩ ?_
  refine Zhn ?_
  refine Zb ?_
  refine Zee rfl [] trivial ?_
  have hE : actF (RS.mk cs h way last false) ac = (RS.mk (cs.set (pickAt ac.cache cs.length) (writeF (cs.getD (pickAt ac.cache cs.length) cd0) (ad ac) 4 ac.val).1) h way (last.set (wd ac) ac.val) false) := (act_1 h0).trans (if_pos hc18)
  rw [hE]
  replace OP := ((OP.only hN17 (fun g h1 h2 => ap2_A_FpC g h1 h2)).new hN20).only hO22 (Apart.ne1 ap_A_b)
  replace HH := ((HH.only hN17 (fun g h1 h2 => (symP ap2_FpC_FpH) g h1 h2)).new hN20).only hO22 (ne1P ap_FpH_b)
  replace OW := ((OW.only hN17 (fun g h1 h2 => ap2_W_FpC g h1 h2)).new hN20).only hO22 (Apart.ne1 ap_W_b)
  replace HC14 := (HC14.new hN20).only hO22 (ne1P ap_FpC13_b)
  have hrun : RunAt w21 (fun g => g = b ∨ inA A g ∨ inA W g ∨ FpC13 g ∨ FpH g) b bh (RS.mk (cs.set (pickAt ac.cache cs.length) (writeF (cs.getD (pickAt ac.cache cs.length) cd0) (ad ac) 4 ac.val).1) h way (last.set (wd ac) ac.val) false) := ⟨A, cap, ps, W, wc, FpC13, FpH, (by rw [hpl]; exact RB), OP, HC14, HH, OW, ⟨ap_A_b, ap_W_b, ap_FpC13_b, ap_FpH_b, ap2_A_W, (symP ap2_FpC13_A), ap2_A_FpH, (symP ap2_FpC13_W), ap2_W_FpH, ap2_FpC13_FpH, fun _ => Iff.rfl⟩⟩
  replace hF := ((hF.locP hN17 gA_FpC).trNew hN20).loc hO22 (.inl ((hfoot _).2 (.inl rfl)))
  exact ⟨_, rfl, rfl, _, hrun, hF, fun g hg => by rcases hg with rfl | hg | hg | hg | hg; exact (.inl ((hfoot _).2 (.inl rfl))); exact gA_A g hg; exact gA_W g hg; exact gA_FpC13 g hg; exact gA_FpH g hg⟩
 ·have hc18 := of_decide_eq_false hc18
  refine Zsq ?_
  rw [write_fail hc18, set_own] at HC14
  have hfa : (way ++ (askF (cs.getD (pickAt ac.cache cs.length) cd0) (ad ac / 16) (ad_line ac) true ac.pick).2.1).length ≤ 400 := run_few (r.askA ac true)
  rw [List.length_append] at hfa
  refine Zgm ?_
  refine Zm ?_
  refine Zv _ (fun _ fr => x_quo rfl (fr.ev rfl) rfl (by decide) (u32w (ad_quo ac) (ad_line ac))) ?_
  refine Zf fo100_2 ?_
  replace B4 := B4.only hN17 ap_FpC_b1
  refine Zd (v := .int .i64 ac.pick) pl3 (B4.cell 2 rfl) ?_
  refine Zk (args := #[.pointer (some ⟨(ps.getD (pickAt ac.cache cs.length) 0), 0, none⟩), .int .u32 (ad ac / 16), .bool true, .int .i64 ac.pick]) cf13 (cs_ask HC14 (i := (pickAt ac.cache cs.length)) (by have := hpk ac.cache cs.length hcl.1; omega) (ad ac / 16) (ad_line ac) true ac.pick) ?_
  rintro v w31 ⟨A26, cap27, rfl, O28, hA29, FpC23, HC24, hN32, mv25, hap30⟩
  replace RB := RB.only hN17 ap_FpC_b
  have ap_FpC23_b : ¬ FpC23 b := moved_apartP mv25 ap_FpC13_b RB.lt
  replace OP := OP.only hN17 (fun g h1 h2 => ap2_A_FpC g h1 h2)
  have ap2_FpC23_A : ∀ k, FpC23 k → inA A k → False := moved_apart2P mv25 ap2_FpC13_A fun _ hg => OP.lt hg
  replace HH := HH.only hN17 (fun g h1 h2 => (symP ap2_FpC_FpH) g h1 h2)
  have ap2_FpC23_FpH : ∀ k, FpC23 k → FpH k → False := moved_apart2P mv25 ap2_FpC13_FpH fun _ hg => HH.lt hg
  replace OW := OW.only hN17 (fun g h1 h2 => ap2_W_FpC g h1 h2)
  have ap2_FpC23_W : ∀ k, FpC23 k → inA W k → False := moved_apart2P mv25 ap2_FpC13_W fun _ hg => OW.lt hg
  replace hF := hF.locP hN17 gA_FpC
  have gA_FpC23 := gA_movedP hF mv25 gA_FpC13
  clear HC14
  refine Zm ?_
  refine Ztt ?_
  refine Za ?_
  refine Zan ?_
  refine Zgm ?_
  refine Zm ?_
  refine Zn ?_
  refine Zf fo97_2 ?_
  replace RB := RB.only hN32 ap_FpC13_b
  refine Zd (v := .slice W way.length wc) pl29 (RB.cell 2 rfl) ?_
  refine Zm ?_
  intro a fr
  replace OW := OW.only hN32 (fun g h1 h2 => (symP ap2_FpC13_W) g h1 h2)
  refine fx_append (E := msgE) (l := way) (l' := (askF (cs.getD (pickAt ac.cache cs.length) cd0) (ad ac / 16) (ad_line ac) true ac.pick).2.1) elMsg fr rfl rfl (by decide) rfl (fr.ev rfl) (fr.ev rfl) (by first | rfl | (simp; done) | (simp; omega)) (by first | rfl | (simp; done) | (simp; omega)) OW O28.view (by simp only [List.length_append] at *; omega) (by first | (unfold maxLen; done) | (unfold maxLen; first | omega | (simp only [List.length_append, List.length_cons, List.length_nil]; omega) | (simp; done) | (simp; omega))) ?_
  clear fr a
  intro A33 cap34 w35 O36 hO37 mv38
  have ap_A33_b : Apart A33 b := moved_apart mv38 ap_W_b RB.lt
  replace OP := OP.only hN32 (fun g h1 h2 => (symP ap2_FpC13_A) g h1 h2)
  have ap2_A33_A : Apart2 A33 A := moved_apart2 mv38 ap2_A_W.symm fun _ hg => OP.lt hg
  replace HH := HH.only hN32 (fun g h1 h2 => (symP ap2_FpC13_FpH) g h1 h2)
  have ap2_A33_FpH : ∀ k, inA A33 k → FpH k → False := moved_apart2P mv38 ap2_W_FpH fun _ hg => HH.lt hg
  have ap2_A33_FpC23 : ∀ k, inA A33 k → FpC23 k → False := moved_apart2P mv38 (symP ap2_FpC23_W) fun _ hg => HC24.lt hg
  replace hF := hF.locP hN32 gA_FpC13
  have gA_A33 := gA_moved hF mv38 gA_W
  clear OW
  refine Zn ?_
  refine Zf fo97_2 ?_
  replace RB := RB.only hO37 ap_W_b
  refine Zs1 (cs' := runA A cs.length cap bh A33 ((way ++ ((askF (cs.getD (pickAt ac.cache cs.length) cd0) (ad ac / 16) (ad_line ac) true ac.pick).2.1)).length) cap34 last false) sz29 RB (by rw [run_size, hl16]; decide) run_setW fun w39 hO40 RB => ?_
  refine Znl ?_
  refine Zb ?_
  refine Zee rfl [] trivial ?_
  have hE : actF (RS.mk cs h way last false) ac = (RS.mk (cs.set (pickAt ac.cache cs.length) (askF (cs.getD (pickAt ac.cache cs.length) cd0) (ad ac / 16) (ad_line ac) true ac.pick).1) h (way ++ ((askF (cs.getD (pickAt ac.cache cs.length) cd0) (ad ac / 16) (ad_line ac) true ac.pick).2.1)) last false) := (act_1 h0).trans (if_neg hc18)
  rw [hE]
  replace OP := (OP.only hO37 (fun g h1 h2 => ap2_A_W g h1 h2)).only hO40 (Apart.ne1 ap_A_b)
  replace HH := (HH.only hO37 (fun g h1 h2 => (symP ap2_W_FpH) g h1 h2)).only hO40 (ne1P ap_FpH_b)
  replace HC24 := (HC24.only hO37 (fun g h1 h2 => ap2_FpC23_W g h1 h2)).only hO40 (ne1P ap_FpC23_b)
  replace O36 := O36.only hO40 (Apart.ne1 ap_A33_b)
  have hrun : RunAt w39 (fun g => g = b ∨ inA A g ∨ inA A33 g ∨ FpC23 g ∨ FpH g) b bh (RS.mk (cs.set (pickAt ac.cache cs.length) (askF (cs.getD (pickAt ac.cache cs.length) cd0) (ad ac / 16) (ad_line ac) true ac.pick).1) h (way ++ ((askF (cs.getD (pickAt ac.cache cs.length) cd0) (ad ac / 16) (ad_line ac) true ac.pick).2.1)) last false) := ⟨A, cap, ps, A33, cap34, FpC23, FpH, (by rw [hpl]; exact RB), OP, HC24, HH, O36, ⟨ap_A_b, ap_A33_b, ap_FpC23_b, ap_FpH_b, ap2_A33_A.symm, (symP ap2_FpC23_A), ap2_A_FpH, ap2_A33_FpC23, ap2_A33_FpH, ap2_FpC23_FpH, fun _ => Iff.rfl⟩⟩
  replace hF := (hF.locA hO37 gA_W).loc hO40 (.inl ((hfoot _).2 (.inl rfl)))
  exact ⟨_, rfl, rfl, _, hrun, hF, fun g hg => by rcases hg with rfl | hg | hg | hg | hg; exact (.inl ((hfoot _).2 (.inl rfl))); exact gA_A g hg; exact gA_A33 g hg; exact gA_FpC23 g hg; exact gA_FpH g hg⟩
theorem act_k2 {w : World} {Fp : Nat → Prop} {b bh : Nat} {s : RS} (H : RunAt w Fp b bh s) {k : Nat} (r : RI k s) (hk : k ≤ 10000) (ac : Ac) (h0 : ac.kind = 2) : Calls Try.prog 37 #[.pointer (some ⟨b, 0, none⟩), .agg (acE.arr ac)] w (Ret fun v w' => v = .tuple #[] ∧ ∃ Fp', RunAt w' Fp' b bh (actF s ac) ∧ Only Fp w w' ∧ ∀ g, Fp' g → Fp g ∨ w.heap.size ≤ g) := by
 obtain ⟨cs, h, way, last, bad⟩ := s
 obtain rfl : bad = false := r.bad
 have hl16 : last.length = 16 := r.len
 have hcl := run_cs_len r
 have hfw := run_few r
 change way.length ≤ 400 at hfw
 change 1 ≤ cs.length ∧ cs.length ≤ 4 at hcl
 obtain ⟨A, cap, ps, W, wc, FpC, FpH, RB, OP, HC, HH, OW, ⟨ap_A_b, ap_W_b, ap_FpC_b, ap_FpH_b, ap2_A_W, ap2_A_FpC, ap2_A_FpH, ap2_W_FpC, ap2_W_FpH, ap2_FpC_FpH, hfoot⟩⟩ := H
 have hpl : ps.length = cs.length := HC.len
 replace RB : Blk w b 97 (runA A ps.length cap bh W way.length wc last false) := RB
 replace HC : CachesAt w FpC ps cs := HC
 replace HH : HomeAt w FpH bh h := HH
 replace OW : Own msgE w W wc way := OW
 have hOl := OP.len
 have hWl := OW.len
 unfold maxLen at hOl hWl
 have gA_A : ∀ g, inA A g → Fp g ∨ w.heap.size ≤ g := fun g hg => .inl ((hfoot g).2 (.inr (.inl hg)))
 have gA_W : ∀ g, inA W g → Fp g ∨ w.heap.size ≤ g := fun g hg => .inl ((hfoot g).2 (.inr (.inr (.inl hg))))
 have gA_FpC : ∀ g, FpC g → Fp g ∨ w.heap.size ≤ g := fun g hg => .inl ((hfoot g).2 (.inr (.inr (.inr (.inl hg)))))
 have gA_FpH : ∀ g, FpH g → Fp g ∨ w.heap.size ≤ g := fun g hg => .inl ((hfoot g).2 (.inr (.inr (.inr (.inr hg)))))
 have hpk : ∀ p n, 1 ≤ n → pickAt p n < n := fun p n h => pickAt_lt p n h
 rw [hpl] at RB
 have hpc := hpk ac.cache cs.length hcl.1
 have hF := Only.refl (Fp) w
 refine Zen 218 Try.func37 ?_
 refine Zsr ?_
 refine Znb (cs := acE.arr ac) fun b1 w2 hN3 B4 hb5 => ?_
 have ap_FpC_b1 := HC.apart hb5
 have ap_W_b1 := OW.apart hb5
 refine Znq ?_
 refine ZhT (n := 8) 8 (fun w => Blk w b 97 (runA A cs.length cap bh W way.length wc last false) ∧ Blk w b1 100 (acE.arr ac) ∧ True) ?_
 intro w6 hN7
 replace RB := (RB.new hN3).new hN7
 replace B4 := B4.new hN7
 have hS9 := And.intro RB (And.intro B4 trivial)
 refine Zhf 0 fo100_1 hS9 ?_
 refine Zhl (v := .int .i64 ac.cache) 1 pl3 hS9 (fun _ ⟨_, B4, _⟩ => (B4.cell 1 rfl)) ?_
 refine Zhm 2 hS9 ?_
 refine Zhc 3 hS9 ?_
 refine Zhf 4 fo97_0 hS9 ?_
 refine Zhl (v := .slice A cs.length cap) 5 pl94 hS9 (fun _ ⟨RB, _⟩ => (RB.cell 0 rfl)) ?_
 refine Zht 6 rfl _ hS9 (fun _ fr _ _ => x_len Try.underlying94 rfl (fr.ev rfl)) ?_
 refine Zh1 7 ?_
 refine Zk (args := #[.int .i64 ac.cache, .int .i64 ((cs.length : Nat) : Int)]) cf40 (mod_c ac.cache cs.length (by omega) (by omega) _) ?_
 rintro v w9 ⟨rfl, hw9⟩
 obtain rfl := hw9.symm
 refine Zhb ⟨RB, B4, trivial⟩ ?_
 refine Zhn ?_
 refine Ztl ?_
 refine Zan ?_
 refine Zsm ?_
 refine Zn ?_
 refine Zf fo97_0 ?_
 refine Zd (v := .slice A cs.length cap) pl94 (RB.cell 0 rfl) ?_
 refine Zm ?_
 have hpc := hpk ac.cache ps.length (by omega)
 replace OP := (OP.new hN3).new hN7
 obtain ⟨g10, o11, hA12⟩ := (OP.view).some_ (by first | omega | decide)
 refine Zv (.pointer (some ⟨g10, o11 + (pickAt ac.cache cs.length) * 1, none⟩)) (fun _ fr => x_indexV Try.underlying94 sz25 rfl (fr.ev rfl) hA12 (fr.ev rfl) (by first | omega | decide) rfl) ?_
 refine Zd pl25 (range_cell ((OP.view).elem hA12 (pickAt ac.cache cs.length) 0 (by first | omega | decide)) 0 rfl rfl) ?_
 refine Zan ?_
 refine Zsr ?_
 refine Zf fo100_3 ?_
 refine Zd (v := .int .u32 ac.addr) pl32 (B4.cell 3 rfl) ?_
 refine Zv _ (fun _ fr => x_rem rfl (fr.ev rfl) rfl (by decide) (wd_rem ac)) ?_
 refine Zv (.int .i64 ((wd ac : Nat) : Int)) (fun _ fr => x_convert Try.underlying32 Try.underlying3 rfl (fr.ev rfl) (i64w (r := ((wd ac : Nat) : Int)) rfl (by have := wd_lt ac; omega))) ?_
 refine Zan ?_
 refine Zsm ?_
 refine Zv (.int .i64 ((4 * wd ac : Nat) : Int)) (fun _ fr => x_mul rfl rfl (fr.ev rfl) (i64w (r := ((4 * wd ac : Nat) : Int)) (by omega) (by have := wd_lt ac; omega))) ?_
 refine Zv _ (fun _ fr => x_convert Try.underlying3 Try.underlying32 rfl (fr.ev rfl) (u32w (ad_eq ac) (ad_bd' ac))) ?_
 refine Zan ?_
 refine Zsr ?_
 refine Zf fo100_0 ?_
 refine Zd (v := .int .i64 ac.kind) pl3 (B4.cell 0 rfl) ?_
 refine Znn ?_
 refine Zbl ?_
 refine Zsr ?_
 refine Zv (.bool false) (fun _ fr => x_eql rfl (fr.ev rfl) rfl (decide_eq_false (by omega))) ?_
 refine Zan ?_
 refine Zcf ?_
 refine Zsr ?_
 refine Zv (.bool false) (fun _ fr => x_eql rfl (fr.ev rfl) rfl (decide_eq_false (by omega))) ?_
 refine Zan ?_
 refine Zcf ?_
 refine Zsr ?_
 refine Zv (.bool true) (fun _ fr => x_eql rfl (fr.ev rfl) rfl (decide_eq_true (by omega))) ?_
 refine Zan ?_
 refine Zct ?_
 have hfa : (way ++ (evictF (cs.getD (pickAt ac.cache cs.length) cd0) ac.pick).2).length ≤ 400 := run_few (r.evictA ac)
 rw [List.length_append] at hfa
 refine ZhT (n := 10) 10 (fun w => Blk w b 97 (runA A cs.length cap bh W way.length wc last false) ∧ Blk w b1 100 (acE.arr ac) ∧ True) ?_
 intro w13 hN14
 replace RB := RB.new hN14
 replace B4 := B4.new hN14
 have hS9 := And.intro RB (And.intro B4 trivial)
 refine Zhm 0 hS9 ?_
 refine Zhm 1 hS9 ?_
 refine Zhc 2 hS9 ?_
 refine Zhf 3 fo97_2 hS9 ?_
 refine Zhl (v := .slice W way.length wc) 4 pl29 hS9 (fun _ ⟨RB, _⟩ => (RB.cell 2 rfl)) ?_
 refine Zhm 5 hS9 ?_
 refine Zhf 6 fo100_2 hS9 ?_
 refine Zhl (v := .int .i64 ac.pick) 7 pl3 hS9 (fun _ ⟨_, B4, _⟩ => (B4.cell 2 rfl)) ?_
 refine Zh1 8 ?_
 replace HC := ((HC.new hN3).new hN7).new hN14
 refine Zk (args := #[.pointer (some ⟨(ps.getD (pickAt ac.cache cs.length) 0), 0, none⟩), .int .i64 ac.pick]) cf25 (cs_evict HC (i := (pickAt ac.cache cs.length)) (by have := hpk ac.cache cs.length hcl.1; omega) ac.pick) ?_
 rintro v w23 ⟨A18, cap19, rfl, O20, hA21, FpC15, HC16, hN24, mv17, hap22⟩
 have ap_FpC15_b : ¬ FpC15 b := moved_apartP mv17 ap_FpC_b RB.lt
 replace OP := OP.new hN14
 have ap2_FpC15_A : ∀ k, FpC15 k → inA A k → False := moved_apart2P mv17 (symP ap2_A_FpC) fun _ hg => OP.lt hg
 replace HH := ((HH.new hN3).new hN7).new hN14
 have ap2_FpC15_FpH : ∀ k, FpC15 k → FpH k → False := moved_apart2P mv17 ap2_FpC_FpH fun _ hg => HH.lt hg
 replace OW := ((OW.new hN3).new hN7).new hN14
 have ap2_FpC15_W : ∀ k, FpC15 k → inA W k → False := moved_apart2P mv17 (symP ap2_W_FpC) fun _ hg => OW.lt hg
 replace hF := ((hF.trNew hN3).trNew hN7).trNew hN14
 have gA_FpC15 := gA_movedP hF mv17 gA_FpC
 clear HC
 replace RB := RB.only hN24 ap_FpC_b
 replace B4 := B4.only hN24 ap_FpC_b1
 refine Zhb ⟨RB, B4, trivial⟩ ?_
 refine Zh1 9 ?_
 intro a fr
 replace OW := OW.only hN24 (fun g h1 h2 => ap2_W_FpC g h1 h2)
 refine fx_append (E := msgE) (l := way) (l' := (evictF (cs.getD (pickAt ac.cache cs.length) cd0) ac.pick).2) elMsg fr rfl rfl (by decide) rfl (fr.ev rfl) (fr.ev rfl) (by first | rfl | (simp; done) | (simp; omega)) (by first | rfl | (simp; done) | (simp; omega)) OW O20.view (by simp only [List.length_append] at *; omega) (by first | (unfold maxLen; done) | (unfold maxLen; first | omega | (simp only [List.length_append, List.length_cons, List.length_nil]; omega) | (simp; done) | (simp; omega))) ?_
 clear fr a
 intro A25 cap26 w27 O28 hO29 mv30
 have ap_A25_b : Apart A25 b := moved_apart mv30 ap_W_b RB.lt
 replace OP := OP.only hN24 (fun g h1 h2 => ap2_A_FpC g h1 h2)
 have ap2_A25_A : Apart2 A25 A := moved_apart2 mv30 ap2_A_W.symm fun _ hg => OP.lt hg
 replace HH := HH.only hN24 (fun g h1 h2 => (symP ap2_FpC_FpH) g h1 h2)
 have ap2_A25_FpH : ∀ k, inA A25 k → FpH k → False := moved_apart2P mv30 ap2_W_FpH fun _ hg => HH.lt hg
 have ap2_A25_FpC15 : ∀ k, inA A25 k → FpC15 k → False := moved_apart2P mv30 (symP ap2_FpC15_W) fun _ hg => HC16.lt hg
 replace hF := hF.locP hN24 gA_FpC
 have gA_A25 := gA_moved hF mv30 gA_W
 clear OW
 replace RB := RB.only hO29 ap_W_b
 replace B4 := B4.only hO29 ap_W_b1
 refine Zhb ⟨RB, B4, trivial⟩ ?_
 refine Zhn ?_
 refine Ztl ?_
 refine Zn ?_
 refine Zf fo97_2 ?_
 refine Zs1 (cs' := runA A cs.length cap bh A25 ((way ++ ((evictF (cs.getD (pickAt ac.cache cs.length) cd0) ac.pick).2)).length) cap26 last false) sz29 RB (by rw [run_size, hl16]; decide) run_setW fun w31 hO32 RB => ?_
 refine Znl ?_
 refine Zb ?_
 refine Zee rfl [] trivial ?_
 have hE : actF (RS.mk cs h way last false) ac = (RS.mk (cs.set (pickAt ac.cache cs.length) (evictF (cs.getD (pickAt ac.cache cs.length) cd0) ac.pick).1) h (way ++ ((evictF (cs.getD (pickAt ac.cache cs.length) cd0) ac.pick).2)) last false) := (act_2 h0)
 rw [hE]
 replace OP := (OP.only hO29 (fun g h1 h2 => ap2_A_W g h1 h2)).only hO32 (Apart.ne1 ap_A_b)
 replace HH := (HH.only hO29 (fun g h1 h2 => (symP ap2_W_FpH) g h1 h2)).only hO32 (ne1P ap_FpH_b)
 replace HC16 := (HC16.only hO29 (fun g h1 h2 => ap2_FpC15_W g h1 h2)).only hO32 (ne1P ap_FpC15_b)
 replace O28 := O28.only hO32 (Apart.ne1 ap_A25_b)
 have hrun : RunAt w31 (fun g => g = b ∨ inA A g ∨ inA A25 g ∨ FpC15 g ∨ FpH g) b bh (RS.mk (cs.set (pickAt ac.cache cs.length) (evictF (cs.getD (pickAt ac.cache cs.length) cd0) ac.pick).1) h (way ++ ((evictF (cs.getD (pickAt ac.cache cs.length) cd0) ac.pick).2)) last false) := ⟨A, cap, ps, A25, cap26, FpC15, FpH, (by rw [hpl]; exact RB), OP, HC16, HH, O28, ⟨ap_A_b, ap_A25_b, ap_FpC15_b, ap_FpH_b, ap2_A25_A.symm, (symP ap2_FpC15_A), ap2_A_FpH, ap2_A25_FpC15, ap2_A25_FpH, ap2_FpC15_FpH, fun _ => Iff.rfl⟩⟩
 replace hF := (hF.locA hO29 gA_W).loc hO32 (.inl ((hfoot _).2 (.inl rfl)))
 exact ⟨_, rfl, rfl, _, hrun, hF, fun g hg => by rcases hg with rfl | hg | hg | hg | hg; exact (.inl ((hfoot _).2 (.inl rfl))); exact gA_A g hg; exact gA_A25 g hg; exact gA_FpC15 g hg; exact gA_FpH g hg⟩
theorem act_k3 {w : World} {Fp : Nat → Prop} {b bh : Nat} {s : RS} (H : RunAt w Fp b bh s) {k : Nat} (r : RI k s) (hk : k ≤ 10000) (ac : Ac) (h0 : ac.kind = 3) : Calls Try.prog 37 #[.pointer (some ⟨b, 0, none⟩), .agg (acE.arr ac)] w (Ret fun v w' => v = .tuple #[] ∧ ∃ Fp', RunAt w' Fp' b bh (actF s ac) ∧ Only Fp w w' ∧ ∀ g, Fp' g → Fp g ∨ w.heap.size ≤ g) := by
 obtain ⟨cs, h, way, last, bad⟩ := s
 obtain rfl : bad = false := r.bad
 have hl16 : last.length = 16 := r.len
 have hcl := run_cs_len r
 have hfw := run_few r
 change way.length ≤ 400 at hfw
 change 1 ≤ cs.length ∧ cs.length ≤ 4 at hcl
 obtain ⟨A, cap, ps, W, wc, FpC, FpH, RB, OP, HC, HH, OW, ⟨ap_A_b, ap_W_b, ap_FpC_b, ap_FpH_b, ap2_A_W, ap2_A_FpC, ap2_A_FpH, ap2_W_FpC, ap2_W_FpH, ap2_FpC_FpH, hfoot⟩⟩ := H
 have hpl : ps.length = cs.length := HC.len
 replace RB : Blk w b 97 (runA A ps.length cap bh W way.length wc last false) := RB
 replace HC : CachesAt w FpC ps cs := HC
 replace HH : HomeAt w FpH bh h := HH
 replace OW : Own msgE w W wc way := OW
 have hOl := OP.len
 have hWl := OW.len
 unfold maxLen at hOl hWl
 have gA_A : ∀ g, inA A g → Fp g ∨ w.heap.size ≤ g := fun g hg => .inl ((hfoot g).2 (.inr (.inl hg)))
 have gA_W : ∀ g, inA W g → Fp g ∨ w.heap.size ≤ g := fun g hg => .inl ((hfoot g).2 (.inr (.inr (.inl hg))))
 have gA_FpC : ∀ g, FpC g → Fp g ∨ w.heap.size ≤ g := fun g hg => .inl ((hfoot g).2 (.inr (.inr (.inr (.inl hg)))))
 have gA_FpH : ∀ g, FpH g → Fp g ∨ w.heap.size ≤ g := fun g hg => .inl ((hfoot g).2 (.inr (.inr (.inr (.inr hg)))))
 have hpk : ∀ p n, 1 ≤ n → pickAt p n < n := fun p n h => pickAt_lt p n h
 rw [hpl] at RB
 have hpc := hpk ac.cache cs.length hcl.1
 have hF := Only.refl (Fp) w
 refine Zen 218 Try.func37 ?_
 refine Zsr ?_
 refine Znb (cs := acE.arr ac) fun b1 w2 hN3 B4 hb5 => ?_
 refine Znq ?_
 refine ZhT (n := 8) 8 (fun w => Blk w b 97 (runA A cs.length cap bh W way.length wc last false) ∧ Blk w b1 100 (acE.arr ac) ∧ True) ?_
 intro w6 hN7
 replace RB := (RB.new hN3).new hN7
 replace B4 := B4.new hN7
 have hS9 := And.intro RB (And.intro B4 trivial)
 refine Zhf 0 fo100_1 hS9 ?_
 refine Zhl (v := .int .i64 ac.cache) 1 pl3 hS9 (fun _ ⟨_, B4, _⟩ => (B4.cell 1 rfl)) ?_
 refine Zhm 2 hS9 ?_
 refine Zhc 3 hS9 ?_
 refine Zhf 4 fo97_0 hS9 ?_
 refine Zhl (v := .slice A cs.length cap) 5 pl94 hS9 (fun _ ⟨RB, _⟩ => (RB.cell 0 rfl)) ?_
 refine Zht 6 rfl _ hS9 (fun _ fr _ _ => x_len Try.underlying94 rfl (fr.ev rfl)) ?_
 refine Zh1 7 ?_
 refine Zk (args := #[.int .i64 ac.cache, .int .i64 ((cs.length : Nat) : Int)]) cf40 (mod_c ac.cache cs.length (by omega) (by omega) _) ?_
 rintro v w9 ⟨rfl, hw9⟩
 obtain rfl := hw9.symm
 refine Zhb ⟨RB, B4, trivial⟩ ?_
 refine Zhn ?_
 refine Ztl ?_
 refine Zan ?_
 refine Zsm ?_
 refine Zn ?_
 refine Zf fo97_0 ?_
 refine Zd (v := .slice A cs.length cap) pl94 (RB.cell 0 rfl) ?_
 refine Zm ?_
 have hpc := hpk ac.cache ps.length (by omega)
 replace OP := (OP.new hN3).new hN7
 obtain ⟨g10, o11, hA12⟩ := (OP.view).some_ (by first | omega | decide)
 refine Zv (.pointer (some ⟨g10, o11 + (pickAt ac.cache cs.length) * 1, none⟩)) (fun _ fr => x_indexV Try.underlying94 sz25 rfl (fr.ev rfl) hA12 (fr.ev rfl) (by first | omega | decide) rfl) ?_
 refine Zd pl25 (range_cell ((OP.view).elem hA12 (pickAt ac.cache cs.length) 0 (by first | omega | decide)) 0 rfl rfl) ?_
 refine Zan ?_
 refine Zsr ?_
 refine Zf fo100_3 ?_
 refine Zd (v := .int .u32 ac.addr) pl32 (B4.cell 3 rfl) ?_
 refine Zv _ (fun _ fr => x_rem rfl (fr.ev rfl) rfl (by decide) (wd_rem ac)) ?_
 refine Zv (.int .i64 ((wd ac : Nat) : Int)) (fun _ fr => x_convert Try.underlying32 Try.underlying3 rfl (fr.ev rfl) (i64w (r := ((wd ac : Nat) : Int)) rfl (by have := wd_lt ac; omega))) ?_
 refine Zan ?_
 refine Zsm ?_
 refine Zv (.int .i64 ((4 * wd ac : Nat) : Int)) (fun _ fr => x_mul rfl rfl (fr.ev rfl) (i64w (r := ((4 * wd ac : Nat) : Int)) (by omega) (by have := wd_lt ac; omega))) ?_
 refine Zv _ (fun _ fr => x_convert Try.underlying3 Try.underlying32 rfl (fr.ev rfl) (u32w (ad_eq ac) (ad_bd' ac))) ?_
 refine Zan ?_
 refine Zsr ?_
 refine Zf fo100_0 ?_
 refine Zd (v := .int .i64 ac.kind) pl3 (B4.cell 0 rfl) ?_
 refine Znn ?_
 refine Zbl ?_
 refine Zsr ?_
 refine Zv (.bool false) (fun _ fr => x_eql rfl (fr.ev rfl) rfl (decide_eq_false (by omega))) ?_
 refine Zan ?_
 refine Zcf ?_
 refine Zsr ?_
 refine Zv (.bool false) (fun _ fr => x_eql rfl (fr.ev rfl) rfl (decide_eq_false (by omega))) ?_
 refine Zan ?_
 refine Zcf ?_
 refine Zsr ?_
 refine Zv (.bool false) (fun _ fr => x_eql rfl (fr.ev rfl) rfl (decide_eq_false (by omega))) ?_
 refine Zan ?_
 refine Zcf ?_
 refine Zsr ?_
 refine Zv (.bool true) (fun _ fr => x_eql rfl (fr.ev rfl) rfl (decide_eq_true (by omega))) ?_
 refine Zan ?_
 refine Zct ?_
 refine Zsq ?_
 refine Zsm ?_
 refine Zn ?_
 refine Zf fo97_2 ?_
 refine Zd (v := .slice W way.length wc) pl29 (RB.cell 2 rfl) ?_
 refine Zv _ (fun _ fr => x_len Try.underlying29 rfl (fr.ev rfl)) ?_
 refine Zv _ (fun _ fr => x_eql rfl (fr.ev rfl) rfl rfl) ?_
 refine Znn ?_
 refine Zcd (fun hc13 => ?_) (fun hc13 => ?_)
 ·have hc13 := of_decide_eq_true hc13
  refine Zrt ?_
  refine Zr1 ?_
  refine Zr2 ?_
  refine Zre rfl [] trivial ?_
  have hE : actF (RS.mk cs h way last false) ac = (RS.mk cs h way last false) := (act_3 h0).trans (dlv_nil (s := (RS.mk cs h way last false)) (show way = [] from List.eq_nil_of_length_eq_zero (by have := hc13; omega)) _)
  rw [hE]
  replace HC := (HC.new hN3).new hN7
  replace HH := (HH.new hN3).new hN7
  replace OW := (OW.new hN3).new hN7
  have hrun : RunAt w6 (fun g => g = b ∨ inA A g ∨ inA W g ∨ FpC g ∨ FpH g) b bh (RS.mk cs h way last false) := ⟨A, cap, ps, W, wc, FpC, FpH, (by rw [hpl]; exact RB), OP, HC, HH, OW, ⟨ap_A_b, ap_W_b, ap_FpC_b, ap_FpH_b, ap2_A_W, ap2_A_FpC, ap2_A_FpH, ap2_W_FpC, ap2_W_FpH, ap2_FpC_FpH, fun _ => Iff.rfl⟩⟩
  replace hF := (hF.trNew hN3).trNew hN7
  exact ⟨_, rfl, rfl, _, hrun, hF, fun g hg => by rcases hg with rfl | hg | hg | hg | hg; exact (.inl ((hfoot _).2 (.inl rfl))); exact gA_A g hg; exact gA_W g hg; exact gA_FpC g hg; exact gA_FpH g hg⟩
 ·have hc13 := of_decide_eq_false hc13
  refine Zkn ?_
  refine Zsq ?_
  have hne : way ≠ [] := fun e => hc13 (by rw [e]; rfl)
  have hwl1 : 1 ≤ way.length := List.length_pos_iff.2 hne
  have hpp := hpk ac.pick way.length hwl1
  refine ZhT (n := 8) 8 (fun w => Blk w b 97 (runA A cs.length cap bh W way.length wc last false) ∧ Blk w b1 100 (acE.arr ac) ∧ True) ?_
  intro w14 hN15
  replace RB := RB.new hN15
  replace B4 := B4.new hN15
  have hS9 := And.intro RB (And.intro B4 trivial)
  refine Zhf 0 fo100_2 hS9 ?_
  refine Zhl (v := .int .i64 ac.pick) 1 pl3 hS9 (fun _ ⟨_, B4, _⟩ => (B4.cell 2 rfl)) ?_
  refine Zhm 2 hS9 ?_
  refine Zhc 3 hS9 ?_
  refine Zhf 4 fo97_2 hS9 ?_
  refine Zhl (v := .slice W way.length wc) 5 pl29 hS9 (fun _ ⟨RB, _⟩ => (RB.cell 2 rfl)) ?_
  refine Zht 6 rfl _ hS9 (fun _ fr _ _ => x_len Try.underlying29 rfl (fr.ev rfl)) ?_
  refine Zh1 7 ?_
  refine Zk (args := #[.int .i64 ac.pick, .int .i64 ((way.length : Nat) : Int)]) cf40 (mod_c ac.pick way.length (by omega) (by omega) _) ?_
  rintro v w9 ⟨rfl, hw9⟩
  obtain rfl := hw9.symm
  refine Zhb ⟨RB, B4, trivial⟩ ?_
  refine Zhn ?_
  refine Ztl ?_
  refine Zan ?_
  refine Zsm ?_
  refine Zn ?_
  refine Zf fo97_2 ?_
  refine Zd (v := .slice W way.length wc) pl29 (RB.cell 2 rfl) ?_
  refine Zm ?_
  replace OW := ((OW.new hN3).new hN7).new hN15
  obtain ⟨g18, o19, hA20⟩ := (OW.view).some_ (by first | omega | decide)
  refine Zv (.pointer (some ⟨g18, o19 + (pickAt ac.pick way.length) * 20, none⟩)) (fun _ fr => x_indexV Try.underlying29 sz35 rfl (fr.ev rfl) hA20 (fr.ev rfl) (by first | omega | decide) rfl) ?_
  refine ZE msgE ag35 ((OW.view).elem hA20 (pickAt ac.pick way.length) msg0 (by omega)) ?_
  refine Zna (z := zv3) (cs := msgE.arr msg0) (by kernel_rfl) fun b21 w22 hN23 B24 hb25 => ?_
  have ne_b_b21 := nelt RB.lt hb25
  replace OP := OP.new hN15
  have ap_A_b21 := OP.apart hb25
  replace HC := ((HC.new hN3).new hN7).new hN15
  have ap_FpC_b21 := HC.apart hb25
  replace HH := ((HH.new hN3).new hN7).new hN15
  have ap_FpH_b21 := HH.apart hb25
  have ap_W_b21 := OW.apart hb25
  replace hF := ((hF.trNew hN3).trNew hN7).trNew hN15
  have g_b21 := hF.sz hb25
  refine ZsS sz35 (msgE.all _) B24 (msgE.size _) (msgE.size _) fun w26 hO27 B24 => ?_
  refine Znq ?_
  refine ZhT (n := 16) 16 (fun w => Blk w b 97 (runA A cs.length cap bh W way.length wc last false) ∧ True) ?_
  intro w28 hN29
  replace RB := ((RB.new hN23).only hO27 ne_b_b21).new hN29
  have hS9 := And.intro RB trivial
  refine Zhm 0 hS9 ?_
  refine Zhm 1 hS9 ?_
  refine Zhc 2 hS9 ?_
  refine Zhf 3 fo97_2 hS9 ?_
  refine Zhl (v := .slice W way.length wc) 4 pl29 hS9 (fun _ ⟨RB, _⟩ => (RB.cell 2 rfl)) ?_
  refine Zhm 5 hS9 ?_
  replace OW := ((OW.new hN23).only hO27 (Apart.ne1 ap_W_b21)).new hN29
  refine Zht 6 rfl (.slice W (pickAt ac.pick way.length) wc) hS9 (fun _ fr _ _ => x_slice_to Try.underlying29 sz35 rfl (fr.ev rfl) (fr.ev rfl) (by have := (OW.view).len; omega)) ?_
  refine Zhm 8 hS9 ?_
  refine Zhc 9 hS9 ?_
  refine Zhf 10 fo97_2 hS9 ?_
  refine Zhl (v := .slice W way.length wc) 11 pl29 hS9 (fun _ ⟨RB, _⟩ => (RB.cell 2 rfl)) ?_
  refine Zhm 12 hS9 ?_
  refine Zht 13 rfl _ hS9 (fun _ fr _ _ => x_add rfl (fr.ev rfl) rfl (i64w (r := (((pickAt ac.pick way.length) + 1 : Nat) : Int)) (by omega) (by omega))) ?_
  refine Zht 14 rfl (.slice (cutA W wc ((pickAt ac.pick way.length) + 1) 20) (way.length - ((pickAt ac.pick way.length) + 1)) (wc - ((pickAt ac.pick way.length) + 1))) hS9 (fun _ fr _ _ => x_slice_from Try.underlying29 sz35 rfl (fr.ev rfl) (fr.ev rfl) (by omega)) ?_
  refine Zh1 7 ?_
  intro a fr
  refine fx_append (E := msgE) (l := []) (l' := way.take (pickAt ac.pick way.length)) elMsg fr rfl rfl (by decide) rfl rfl (fr.ev rfl) (by first | rfl | (simp; done) | (simp; omega)) (by first | rfl | (simp; done) | (simp; omega)) Own.nil ((OW.view).pre (pickAt ac.pick way.length)) (by first | omega | (simp only [List.length_append, List.length_take, List.length_drop, List.length_nil]; omega)) (by first | (unfold maxLen; done) | (unfold maxLen; first | omega | (simp only [List.length_append, List.length_cons, List.length_nil]; omega) | (simp; done) | (simp; omega))) ?_
  clear fr a
  intro A30 cap31 w32 O33 hO34 mv35
  have ap_A30_b : Apart A30 b := moved_apart mv35 (apart_none b) RB.lt
  replace OP := ((OP.new hN23).only hO27 (Apart.ne1 ap_A_b21)).new hN29
  have ap2_A30_A : Apart2 A30 A := moved_apart2 mv35 (fun k h _ => apart_none k h) fun _ hg => OP.lt hg
  replace HC := ((HC.new hN23).only hO27 (ne1P ap_FpC_b21)).new hN29
  have ap2_A30_FpC : ∀ k, inA A30 k → FpC k → False := moved_apart2P mv35 (fun k h _ => apart_none k h) fun _ hg => HC.lt hg
  replace HH := ((HH.new hN23).only hO27 (ne1P ap_FpH_b21)).new hN29
  have ap2_A30_FpH : ∀ k, inA A30 k → FpH k → False := moved_apart2P mv35 (fun k h _ => apart_none k h) fun _ hg => HH.lt hg
  replace B24 := B24.new hN29
  have ap_A30_b21 : Apart A30 b21 := moved_apart mv35 (apart_none b21) B24.lt
  replace hF := ((hF.trNew hN23).loc hO27 (.inr g_b21)).trNew hN29
  have gA_A30 := gA_moved hF mv35 gA_none
  replace hO34 := only_none hO34
  intro a fr
  simp only [List.nil_append] at fr O33
  revert a
  replace RB := RB.new hO34
  refine Zhb ⟨RB, trivial⟩ ?_
  refine Zh1 15 ?_
  intro a fr
  replace OW := OW.new hO34
  refine fx_append (E := msgE) (l := way.take (pickAt ac.pick way.length)) (l' := way.drop ((pickAt ac.pick way.length) + 1)) elMsg fr rfl rfl (by decide) rfl (fr.ev rfl) (fr.ev rfl) (by first | rfl | (simp; done) | (simp; omega)) (by first | rfl | (simp; done) | (simp; omega)) O33 ((OW.view).drop ((pickAt ac.pick way.length) + 1) (by omega)) (by first | omega | (simp only [List.length_append, List.length_take, List.length_drop, List.length_nil]; omega)) (by first | (unfold maxLen; done) | (unfold maxLen; first | omega | (simp only [List.length_append, List.length_cons, List.length_nil]; omega) | (simp; done) | (simp; omega))) ?_
  clear fr a
  intro A36 cap37 w38 O39 hO40 mv41
  have ap_A36_b : Apart A36 b := moved_apart mv41 ap_A30_b RB.lt
  replace OP := OP.new hO34
  have ap2_A36_A : Apart2 A36 A := moved_apart2 mv41 ap2_A30_A fun _ hg => OP.lt hg
  replace HC := HC.new hO34
  have ap2_A36_FpC : ∀ k, inA A36 k → FpC k → False := moved_apart2P mv41 ap2_A30_FpC fun _ hg => HC.lt hg
  replace HH := HH.new hO34
  have ap2_A36_FpH : ∀ k, inA A36 k → FpH k → False := moved_apart2P mv41 ap2_A30_FpH fun _ hg => HH.lt hg
  replace hF := hF.trNew hO34
  have gA_A36 := gA_moved hF mv41 gA_A30
  clear O33
  replace RB := RB.only hO40 ap_A30_b
  refine Zhb ⟨RB, trivial⟩ ?_
  refine Zhn ?_
  refine Ztl ?_
  refine Zn ?_
  refine Zf fo97_2 ?_
  refine Zs1 (cs' := runA A cs.length cap bh A36 (((way.take (pickAt ac.pick way.length)) ++ (way.drop ((pickAt ac.pick way.length) + 1))).length) cap37 last false) sz29 RB (by rw [run_size, hl16]; decide) run_setW fun w42 hO43 RB => ?_
  refine Znn ?_
  refine Zsr ?_
  refine Zan ?_
  refine Zsr ?_
  refine Zaq ?_
  refine Zsr ?_
  refine Zf fo35_2 ?_
  replace B24 := ((B24.new hO34).only hO40 ap_A30_b21).only hO43 ne_b_b21.symm
  refine Zd (v := .int .i64 ((way.getD (pickAt ac.pick way.length) msg0).dst)) pl3 (B24.cell 2 rfl) ?_
  refine Zv _ (fun _ fr => x_eql rfl (fr.ev rfl) rfl rfl) ?_
  refine Znn ?_
  refine Zcd (fun hc44 => ?_) (fun hc44 => ?_)
  ·have hc44 := of_decide_eq_true hc44
   have hst := run_atH r ac.pick hne hc44
   have hst1 : (takeH h (way.getD (pickAt ac.pick way.length) msg0)).2.2 = 0 := hst.1
   have hfa := run_few (r.dlvA ac.pick)
   rw [hst.2] at hfa
   change ((way.take (pickAt ac.pick way.length) ++ way.drop (pickAt ac.pick way.length + 1)) ++ (takeH h (way.getD (pickAt ac.pick way.length) msg0)).2.1).length ≤ 400 at hfa
   simp only [List.length_append] at hfa
   refine ZhT (n := 10) 10 (fun w => Own ptrE w A cap ps ∧ Blk w b21 35 (msgE.arr (way.getD (pickAt ac.pick way.length) msg0)) ∧ Blk w b 97 (runA A cs.length cap bh A36 (((way.take (pickAt ac.pick way.length)) ++ (way.drop ((pickAt ac.pick way.length) + 1))).length) cap37 last false) ∧ True) ?_
   intro w45 hN46
   replace OP := ((OP.only hO40 (fun g h1 h2 => ap2_A30_A.symm g h1 h2)).only hO43 (Apart.ne1 ap_A_b)).new hN46
   replace B24 := B24.new hN46
   replace RB := RB.new hN46
   have hS9 := And.intro OP (And.intro B24 (And.intro RB trivial))
   refine Zhm 0 hS9 ?_
   refine Zhc 1 hS9 ?_
   refine Zhf 2 fo97_1 hS9 ?_
   refine Zhl 3 pl90 hS9 (fun _ ⟨_, _, RB, _⟩ => (RB.cell 1 rfl)) ?_
   refine ZhE 4 msgE ag35 hS9 (fun _ ⟨_, B24, _⟩ => (B24.rangeE msgE)) ?_
   refine Zh1 5 ?_
   replace HH := ((HH.only hO40 (fun g h1 h2 => (symP ap2_A30_FpH) g h1 h2)).only hO43 (ne1P ap_FpH_b)).new hN46
   refine Zk (args := #[.pointer (some ⟨bh, 0, none⟩), .agg (msgE.arr (way.getD (pickAt ac.pick way.length) msg0))]) cf71 (htake_c HH (way.getD (pickAt ac.pick way.length) msg0) (run_hok r (by omega))) ?_
   rintro v w55 ⟨A47, ac48, FpH49, rfl, O50, hA51, HH52, hs53, hi54, hN56⟩
   have ap2_FpH49_A : ∀ k, FpH49 k → inA A k → False := moved_apart2P hi54 (symP ap2_A_FpH) fun _ hg => OP.lt hg
   replace HC := ((HC.only hO40 (fun g h1 h2 => (symP ap2_A30_FpC) g h1 h2)).only hO43 (ne1P ap_FpC_b)).new hN46
   have ap2_FpH49_FpC : ∀ k, FpH49 k → FpC k → False := moved_apart2P hi54 (symP ap2_FpC_FpH) fun _ hg => HC.lt hg
   replace O39 := (O39.only hO43 (Apart.ne1 ap_A36_b)).new hN46
   have ap2_FpH49_A36 : ∀ k, FpH49 k → inA A36 k → False := moved_apart2P hi54 (symP ap2_A36_FpH) fun _ hg => O39.lt hg
   have ap_FpH49_b : ¬ FpH49 b := moved_apartP hi54 ap_FpH_b RB.lt
   replace hF := ((hF.locA hO40 gA_A30).loc hO43 (.inl ((hfoot _).2 (.inl rfl)))).trNew hN46
   have gA_FpH49 := gA_movedP hF hi54 gA_FpH
   have ap_A47_b : Apart A47 b := new_apart hA51 RB.lt
   clear HH
   replace OP := OP.only hN56 (fun g h1 h2 => ap2_A_FpH g h1 h2)
   replace B24 := B24.only hN56 ap_FpH_b21
   replace RB := RB.only hN56 ap_FpH_b
   refine Zhb ⟨OP, B24, RB, trivial⟩ ?_
   have hS9 := And.intro OP (And.intro B24 (And.intro RB trivial))
   refine Zhm 6 hS9 ?_
   refine Zhx 7 hS9 ?_
   refine Zhx 8 hS9 ?_
   refine Zha 9 hS9 ?_
   refine Zhn ?_
   refine Ztl ?_
   refine Zan ?_
   refine Zsm ?_
   refine Zm ?_
   refine Zn ?_
   refine Zf fo97_4 ?_
   refine Zd (v := .bool false) pl4 (RB.cell 19 (run_bad hl16)) ?_
   refine Zmm ?_
   refine Zv (.bool false) (fun _ fr => x_neq rfl (fr.ev rfl) rfl (decide_eq_false (by omega))) ?_
   refine Zpf ?_
   refine Zn ?_
   refine Zf fo97_4 ?_
   refine Zs1 (cs' := runA A cs.length cap bh A36 (((way.take (pickAt ac.pick way.length)) ++ (way.drop ((pickAt ac.pick way.length) + 1))).length) cap37 last false) sz4 RB (by rw [run_size, hl16]; decide) (run_setB hl16) fun w57 hO58 RB => ?_
   refine Znn ?_
   refine Zgm ?_
   refine Zm ?_
   refine Zn ?_
   refine Zf fo97_2 ?_
   refine Zd (v := .slice A36 (((way.take (pickAt ac.pick way.length)) ++ (way.drop ((pickAt ac.pick way.length) + 1))).length) cap37) pl29 (RB.cell 2 rfl) ?_
   refine Zm ?_
   intro a fr
   replace O39 := (O39.only hN56 (fun g h1 h2 => ap2_A36_FpH g h1 h2)).only hO58 (Apart.ne1 ap_A36_b)
   replace O50 := O50.only hO58 (Apart.ne1 ap_A47_b)
   refine fx_append (E := msgE) (l := (way.take (pickAt ac.pick way.length)) ++ (way.drop ((pickAt ac.pick way.length) + 1))) (l' := (takeH h (way.getD (pickAt ac.pick way.length) msg0)).2.1) elMsg fr rfl rfl (by decide) rfl (fr.ev rfl) (fr.ev rfl) (by first | rfl | (simp; done) | (simp; omega)) (by first | rfl | (simp; done) | (simp; omega)) O39 O50.view (by first | omega | (simp only [List.length_append, List.length_take, List.length_drop, List.length_nil]; omega)) (by first | (unfold maxLen; done) | (unfold maxLen; first | omega | (simp only [List.length_append, List.length_cons, List.length_nil]; omega) | (simp; done) | (simp; omega))) ?_
   clear fr a
   intro A59 cap60 w61 O62 hO63 mv64
   replace OP := OP.only hO58 (Apart.ne1 ap_A_b)
   have ap2_A59_A : Apart2 A59 A := moved_apart2 mv64 ap2_A36_A fun _ hg => OP.lt hg
   replace HC := (HC.only hN56 (fun g h1 h2 => ap2_FpC_FpH g h1 h2)).only hO58 (ne1P ap_FpC_b)
   have ap2_A59_FpC : ∀ k, inA A59 k → FpC k → False := moved_apart2P mv64 ap2_A36_FpC fun _ hg => HC.lt hg
   replace HH52 := HH52.only hO58 (ne1P ap_FpH49_b)
   have ap2_A59_FpH49 : ∀ k, inA A59 k → FpH49 k → False := moved_apart2P mv64 (symP ap2_FpH49_A36) fun _ hg => HH52.lt hg
   have ap_A59_b : Apart A59 b := moved_apart mv64 ap_A36_b RB.lt
   replace hF := (hF.locP hN56 gA_FpH).loc hO58 (.inl ((hfoot _).2 (.inl rfl)))
   have gA_A59 := gA_moved hF mv64 gA_A36
   clear O39
   refine Zn ?_
   refine Zf fo97_2 ?_
   replace RB := RB.only hO63 ap_A36_b
   refine Zs1 (cs' := runA A cs.length cap bh A59 ((((way.take (pickAt ac.pick way.length)) ++ (way.drop ((pickAt ac.pick way.length) + 1))) ++ ((takeH h (way.getD (pickAt ac.pick way.length) msg0)).2.1)).length) cap60 last false) sz29 RB (by rw [run_size, hl16]; decide) run_setW fun w65 hO66 RB => ?_
   refine Znl ?_
   refine Zb ?_
   refine Zee rfl [] trivial ?_
   have hE : actF (RS.mk cs h way last false) ac = (RS.mk cs ((takeH h (way.getD (pickAt ac.pick way.length) msg0)).1) (((way.take (pickAt ac.pick way.length)) ++ (way.drop ((pickAt ac.pick way.length) + 1))) ++ ((takeH h (way.getD (pickAt ac.pick way.length) msg0)).2.1)) last false) := (act_3 h0).trans hst.2
   rw [hE]
   replace OP := (OP.only hO63 (fun g h1 h2 => ap2_A36_A.symm g h1 h2)).only hO66 (Apart.ne1 ap_A_b)
   replace HC := (HC.only hO63 (fun g h1 h2 => (symP ap2_A36_FpC) g h1 h2)).only hO66 (ne1P ap_FpC_b)
   replace HH52 := (HH52.only hO63 (fun g h1 h2 => ap2_FpH49_A36 g h1 h2)).only hO66 (ne1P ap_FpH49_b)
   replace O62 := O62.only hO66 (Apart.ne1 ap_A59_b)
   have hrun : RunAt w65 (fun g => g = b ∨ inA A g ∨ inA A59 g ∨ FpC g ∨ FpH49 g) b bh (RS.mk cs ((takeH h (way.getD (pickAt ac.pick way.length) msg0)).1) (((way.take (pickAt ac.pick way.length)) ++ (way.drop ((pickAt ac.pick way.length) + 1))) ++ ((takeH h (way.getD (pickAt ac.pick way.length) msg0)).2.1)) last false) := ⟨A, cap, ps, A59, cap60, FpC, FpH49, (by rw [hpl]; exact RB), OP, HC, HH52, O62, ⟨ap_A_b, ap_A59_b, ap_FpC_b, ap_FpH49_b, ap2_A59_A.symm, ap2_A_FpC, (symP ap2_FpH49_A), ap2_A59_FpC, ap2_A59_FpH49, (symP ap2_FpH49_FpC), fun _ => Iff.rfl⟩⟩
   replace hF := (hF.locA hO63 gA_A36).loc hO66 (.inl ((hfoot _).2 (.inl rfl)))
   exact ⟨_, rfl, rfl, _, hrun, hF, fun g hg => by rcases hg with rfl | hg | hg | hg | hg; exact (.inl ((hfoot _).2 (.inl rfl))); exact gA_A g hg; exact gA_A59 g hg; exact gA_FpC g hg; exact gA_FpH49 g hg⟩
  ·have hc44 := of_decide_eq_false hc44
   obtain ⟨j, hj, hjl, hst1, hst2⟩ := run_atC r ac.pick hne hc44
   replace hj : (way.getD (pickAt ac.pick way.length) msg0).dst = ((j : Nat) : Int) := hj
   replace hjl : j < cs.length := hjl
   replace hst1 : (takeF (cs.getD j cd0) (way.getD (pickAt ac.pick way.length) msg0)).2.2 = 0 := hst1
   have hfa := run_few (r.dlvA ac.pick)
   rw [hst2] at hfa
   change ((way.take (pickAt ac.pick way.length) ++ way.drop (pickAt ac.pick way.length + 1)) ++ (takeF (cs.getD j cd0) (way.getD (pickAt ac.pick way.length) msg0)).2.1).length ≤ 400 at hfa
   simp only [List.length_append] at hfa
   refine ZhT (n := 14) 14 (fun w => Own ptrE w A cap ps ∧ Blk w b21 35 (msgE.arr (way.getD (pickAt ac.pick way.length) msg0)) ∧ Blk w b 97 (runA A cs.length cap bh A36 (((way.take (pickAt ac.pick way.length)) ++ (way.drop ((pickAt ac.pick way.length) + 1))).length) cap37 last false) ∧ True) ?_
   intro w67 hN68
   replace OP := ((OP.only hO40 (fun g h1 h2 => ap2_A30_A.symm g h1 h2)).only hO43 (Apart.ne1 ap_A_b)).new hN68
   replace B24 := B24.new hN68
   replace RB := RB.new hN68
   have hS9 := And.intro OP (And.intro B24 (And.intro RB trivial))
   refine Zhm 0 hS9 ?_
   refine Zhc 1 hS9 ?_
   refine Zhf 2 fo97_0 hS9 ?_
   refine Zhl (v := .slice A cs.length cap) 3 pl94 hS9 (fun _ ⟨_, _, RB, _⟩ => (RB.cell 0 rfl)) ?_
   refine Zhf 4 fo35_2 hS9 ?_
   refine Zhl (v := .int .i64 ((way.getD (pickAt ac.pick way.length) msg0).dst)) 5 pl3 hS9 (fun _ ⟨_, B24, _⟩ => (B24.cell 2 rfl)) ?_
   refine Zht 6 rfl (.pointer (some ⟨g10, o11 + j * 1, none⟩)) hS9 (fun _ fr _ _ => x_indexV Try.underlying94 sz25 rfl (fr.ev rfl) hA12 ((fr.ev rfl).trans (congrArg (Value.int .i64) hj)) (by first | omega | decide) rfl) ?_
   refine Zhl 7 pl25 hS9 (fun _ ⟨OP, _⟩ => (range_cell ((OP.view).elem hA12 j 0 (by first | omega | decide)) 0 rfl rfl)) ?_
   refine ZhE 8 msgE ag35 hS9 (fun _ ⟨_, B24, _⟩ => (B24.rangeE msgE)) ?_
   refine Zh1 9 ?_
   replace HC := ((HC.only hO40 (fun g h1 h2 => (symP ap2_A30_FpC) g h1 h2)).only hO43 (ne1P ap_FpC_b)).new hN68
   refine Zk (args := #[.pointer (some ⟨(ps.getD j 0), 0, none⟩), .agg (msgE.arr (way.getD (pickAt ac.pick way.length) msg0))]) cf14 (cs_take HC (i := j) (by omega) (way.getD (pickAt ac.pick way.length) msg0)) ?_
   rintro v w77 ⟨A72, cap73, rfl, O74, hA75, FpC69, HC70, hN78, mv71, hap76⟩
   have ap2_FpC69_A : ∀ k, FpC69 k → inA A k → False := moved_apart2P mv71 (symP ap2_A_FpC) fun _ hg => OP.lt hg
   replace HH := ((HH.only hO40 (fun g h1 h2 => (symP ap2_A30_FpH) g h1 h2)).only hO43 (ne1P ap_FpH_b)).new hN68
   have ap2_FpC69_FpH : ∀ k, FpC69 k → FpH k → False := moved_apart2P mv71 ap2_FpC_FpH fun _ hg => HH.lt hg
   replace O39 := (O39.only hO43 (Apart.ne1 ap_A36_b)).new hN68
   have ap2_FpC69_A36 : ∀ k, FpC69 k → inA A36 k → False := moved_apart2P mv71 (symP ap2_A36_FpC) fun _ hg => O39.lt hg
   have ap_FpC69_b : ¬ FpC69 b := moved_apartP mv71 ap_FpC_b RB.lt
   replace hF := ((hF.locA hO40 gA_A30).loc hO43 (.inl ((hfoot _).2 (.inl rfl)))).trNew hN68
   have gA_FpC69 := gA_movedP hF mv71 gA_FpC
   have ap_A72_b : Apart A72 b := new_apart hA75 RB.lt
   clear HC
   replace OP := OP.only hN78 (fun g h1 h2 => ap2_A_FpC g h1 h2)
   replace B24 := B24.only hN78 ap_FpC_b21
   replace RB := RB.only hN78 ap_FpC_b
   refine Zhb ⟨OP, B24, RB, trivial⟩ ?_
   have hS9 := And.intro OP (And.intro B24 (And.intro RB trivial))
   refine Zhm 10 hS9 ?_
   refine Zhx 11 hS9 ?_
   refine Zhx 12 hS9 ?_
   refine Zha 13 hS9 ?_
   refine Zhn ?_
   refine Ztl ?_
   refine Zan ?_
   refine Zsm ?_
   refine Zm ?_
   refine Zn ?_
   refine Zf fo97_4 ?_
   refine Zd (v := .bool false) pl4 (RB.cell 19 (run_bad hl16)) ?_
   refine Zmm ?_
   refine Zv (.bool false) (fun _ fr => x_neq rfl (fr.ev rfl) rfl (decide_eq_false (by omega))) ?_
   refine Zpf ?_
   refine Zn ?_
   refine Zf fo97_4 ?_
   refine Zs1 (cs' := runA A cs.length cap bh A36 (((way.take (pickAt ac.pick way.length)) ++ (way.drop ((pickAt ac.pick way.length) + 1))).length) cap37 last false) sz4 RB (by rw [run_size, hl16]; decide) (run_setB hl16) fun w79 hO80 RB => ?_
   refine Znn ?_
   refine Zgm ?_
   refine Zm ?_
   refine Zn ?_
   refine Zf fo97_2 ?_
   refine Zd (v := .slice A36 (((way.take (pickAt ac.pick way.length)) ++ (way.drop ((pickAt ac.pick way.length) + 1))).length) cap37) pl29 (RB.cell 2 rfl) ?_
   refine Zm ?_
   intro a fr
   replace O39 := (O39.only hN78 (fun g h1 h2 => ap2_A36_FpC g h1 h2)).only hO80 (Apart.ne1 ap_A36_b)
   replace O74 := O74.only hO80 (Apart.ne1 ap_A72_b)
   refine fx_append (E := msgE) (l := (way.take (pickAt ac.pick way.length)) ++ (way.drop ((pickAt ac.pick way.length) + 1))) (l' := (takeF (cs.getD j cd0) (way.getD (pickAt ac.pick way.length) msg0)).2.1) elMsg fr rfl rfl (by decide) rfl (fr.ev rfl) (fr.ev rfl) (by first | rfl | (simp; done) | (simp; omega)) (by first | rfl | (simp; done) | (simp; omega)) O39 O74.view (by first | omega | (simp only [List.length_append, List.length_take, List.length_drop, List.length_nil]; omega)) (by first | (unfold maxLen; done) | (unfold maxLen; first | omega | (simp only [List.length_append, List.length_cons, List.length_nil]; omega) | (simp; done) | (simp; omega))) ?_
   clear fr a
   intro A81 cap82 w83 O84 hO85 mv86
   replace OP := OP.only hO80 (Apart.ne1 ap_A_b)
   have ap2_A81_A : Apart2 A81 A := moved_apart2 mv86 ap2_A36_A fun _ hg => OP.lt hg
   replace HH := (HH.only hN78 (fun g h1 h2 => (symP ap2_FpC_FpH) g h1 h2)).only hO80 (ne1P ap_FpH_b)
   have ap2_A81_FpH : ∀ k, inA A81 k → FpH k → False := moved_apart2P mv86 ap2_A36_FpH fun _ hg => HH.lt hg
   replace HC70 := HC70.only hO80 (ne1P ap_FpC69_b)
   have ap2_A81_FpC69 : ∀ k, inA A81 k → FpC69 k → False := moved_apart2P mv86 (symP ap2_FpC69_A36) fun _ hg => HC70.lt hg
   have ap_A81_b : Apart A81 b := moved_apart mv86 ap_A36_b RB.lt
   replace hF := (hF.locP hN78 gA_FpC).loc hO80 (.inl ((hfoot _).2 (.inl rfl)))
   have gA_A81 := gA_moved hF mv86 gA_A36
   clear O39
   refine Zn ?_
   refine Zf fo97_2 ?_
   replace RB := RB.only hO85 ap_A36_b
   refine Zs1 (cs' := runA A cs.length cap bh A81 ((((way.take (pickAt ac.pick way.length)) ++ (way.drop ((pickAt ac.pick way.length) + 1))) ++ ((takeF (cs.getD j cd0) (way.getD (pickAt ac.pick way.length) msg0)).2.1)).length) cap82 last false) sz29 RB (by rw [run_size, hl16]; decide) run_setW fun w87 hO88 RB => ?_
   refine Znl ?_
   refine Zb ?_
   refine Zee rfl [] trivial ?_
   have hE : actF (RS.mk cs h way last false) ac = (RS.mk (cs.set j (takeF (cs.getD j cd0) (way.getD (pickAt ac.pick way.length) msg0)).1) h (((way.take (pickAt ac.pick way.length)) ++ (way.drop ((pickAt ac.pick way.length) + 1))) ++ ((takeF (cs.getD j cd0) (way.getD (pickAt ac.pick way.length) msg0)).2.1)) last false) := (act_3 h0).trans hst2
   rw [hE]
   replace OP := (OP.only hO85 (fun g h1 h2 => ap2_A36_A.symm g h1 h2)).only hO88 (Apart.ne1 ap_A_b)
   replace HH := (HH.only hO85 (fun g h1 h2 => (symP ap2_A36_FpH) g h1 h2)).only hO88 (ne1P ap_FpH_b)
   replace HC70 := (HC70.only hO85 (fun g h1 h2 => ap2_FpC69_A36 g h1 h2)).only hO88 (ne1P ap_FpC69_b)
   replace O84 := O84.only hO88 (Apart.ne1 ap_A81_b)
   have hrun : RunAt w87 (fun g => g = b ∨ inA A g ∨ inA A81 g ∨ FpC69 g ∨ FpH g) b bh (RS.mk (cs.set j (takeF (cs.getD j cd0) (way.getD (pickAt ac.pick way.length) msg0)).1) h (((way.take (pickAt ac.pick way.length)) ++ (way.drop ((pickAt ac.pick way.length) + 1))) ++ ((takeF (cs.getD j cd0) (way.getD (pickAt ac.pick way.length) msg0)).2.1)) last false) := ⟨A, cap, ps, A81, cap82, FpC69, FpH, (by rw [hpl]; exact RB), OP, HC70, HH, O84, ⟨ap_A_b, ap_A81_b, ap_FpC69_b, ap_FpH_b, ap2_A81_A.symm, (symP ap2_FpC69_A), ap2_A_FpH, ap2_A81_FpC69, ap2_A81_FpH, ap2_FpC69_FpH, fun _ => Iff.rfl⟩⟩
   replace hF := (hF.locA hO85 gA_A36).loc hO88 (.inl ((hfoot _).2 (.inl rfl)))
   exact ⟨_, rfl, rfl, _, hrun, hF, fun g hg => by rcases hg with rfl | hg | hg | hg | hg; exact (.inl ((hfoot _).2 (.inl rfl))); exact gA_A g hg; exact gA_A81 g hg; exact gA_FpC69 g hg; exact gA_FpH g hg⟩
theorem act_kx {w : World} {Fp : Nat → Prop} {b bh : Nat} {s : RS} (H : RunAt w Fp b bh s) {k : Nat} (r : RI k s) (hk : k ≤ 10000) (ac : Ac) (h0 : ac.kind ≠ 0) (h1 : ac.kind ≠ 1) (h2 : ac.kind ≠ 2) (h3 : ac.kind ≠ 3) : Calls Try.prog 37 #[.pointer (some ⟨b, 0, none⟩), .agg (acE.arr ac)] w (Ret fun v w' => v = .tuple #[] ∧ ∃ Fp', RunAt w' Fp' b bh (actF s ac) ∧ Only Fp w w' ∧ ∀ g, Fp' g → Fp g ∨ w.heap.size ≤ g) := by
 obtain ⟨cs, h, way, last, bad⟩ := s
 obtain rfl : bad = false := r.bad
 have hl16 : last.length = 16 := r.len
 have hcl := run_cs_len r
 have hfw := run_few r
 change way.length ≤ 400 at hfw
 change 1 ≤ cs.length ∧ cs.length ≤ 4 at hcl
 obtain ⟨A, cap, ps, W, wc, FpC, FpH, RB, OP, HC, HH, OW, ⟨ap_A_b, ap_W_b, ap_FpC_b, ap_FpH_b, ap2_A_W, ap2_A_FpC, ap2_A_FpH, ap2_W_FpC, ap2_W_FpH, ap2_FpC_FpH, hfoot⟩⟩ := H
 have hpl : ps.length = cs.length := HC.len
 replace RB : Blk w b 97 (runA A ps.length cap bh W way.length wc last false) := RB
 replace HC : CachesAt w FpC ps cs := HC
 replace HH : HomeAt w FpH bh h := HH
 replace OW : Own msgE w W wc way := OW
 have hOl := OP.len
 have hWl := OW.len
 unfold maxLen at hOl hWl
 have gA_A : ∀ g, inA A g → Fp g ∨ w.heap.size ≤ g := fun g hg => .inl ((hfoot g).2 (.inr (.inl hg)))
 have gA_W : ∀ g, inA W g → Fp g ∨ w.heap.size ≤ g := fun g hg => .inl ((hfoot g).2 (.inr (.inr (.inl hg))))
 have gA_FpC : ∀ g, FpC g → Fp g ∨ w.heap.size ≤ g := fun g hg => .inl ((hfoot g).2 (.inr (.inr (.inr (.inl hg)))))
 have gA_FpH : ∀ g, FpH g → Fp g ∨ w.heap.size ≤ g := fun g hg => .inl ((hfoot g).2 (.inr (.inr (.inr (.inr hg)))))
 have hpk : ∀ p n, 1 ≤ n → pickAt p n < n := fun p n h => pickAt_lt p n h
 rw [hpl] at RB
 have hpc := hpk ac.cache cs.length hcl.1
 have hF := Only.refl (Fp) w
 refine Zen 218 Try.func37 ?_
 refine Zsr ?_
 refine Znb (cs := acE.arr ac) fun b1 w2 hN3 B4 hb5 => ?_
 refine Znq ?_
 refine ZhT (n := 8) 8 (fun w => Blk w b 97 (runA A cs.length cap bh W way.length wc last false) ∧ Blk w b1 100 (acE.arr ac) ∧ True) ?_
 intro w6 hN7
 replace RB := (RB.new hN3).new hN7
 replace B4 := B4.new hN7
 have hS9 := And.intro RB (And.intro B4 trivial)
 refine Zhf 0 fo100_1 hS9 ?_
 refine Zhl (v := .int .i64 ac.cache) 1 pl3 hS9 (fun _ ⟨_, B4, _⟩ => (B4.cell 1 rfl)) ?_
 refine Zhm 2 hS9 ?_
 refine Zhc 3 hS9 ?_
 refine Zhf 4 fo97_0 hS9 ?_
 refine Zhl (v := .slice A cs.length cap) 5 pl94 hS9 (fun _ ⟨RB, _⟩ => (RB.cell 0 rfl)) ?_
 refine Zht 6 rfl _ hS9 (fun _ fr _ _ => x_len Try.underlying94 rfl (fr.ev rfl)) ?_
 refine Zh1 7 ?_
 refine Zk (args := #[.int .i64 ac.cache, .int .i64 ((cs.length : Nat) : Int)]) cf40 (mod_c ac.cache cs.length (by omega) (by omega) _) ?_
 rintro v w9 ⟨rfl, hw9⟩
 obtain rfl := hw9.symm
 refine Zhb ⟨RB, B4, trivial⟩ ?_
 refine Zhn ?_
 refine Ztl ?_
 refine Zan ?_
 refine Zsm ?_
 refine Zn ?_
 refine Zf fo97_0 ?_
 refine Zd (v := .slice A cs.length cap) pl94 (RB.cell 0 rfl) ?_
 refine Zm ?_
 have hpc := hpk ac.cache ps.length (by omega)
 replace OP := (OP.new hN3).new hN7
 obtain ⟨g10, o11, hA12⟩ := (OP.view).some_ (by first | omega | decide)
 refine Zv (.pointer (some ⟨g10, o11 + (pickAt ac.cache cs.length) * 1, none⟩)) (fun _ fr => x_indexV Try.underlying94 sz25 rfl (fr.ev rfl) hA12 (fr.ev rfl) (by first | omega | decide) rfl) ?_
 refine Zd pl25 (range_cell ((OP.view).elem hA12 (pickAt ac.cache cs.length) 0 (by first | omega | decide)) 0 rfl rfl) ?_
 refine Zan ?_
 refine Zsr ?_
 refine Zf fo100_3 ?_
 refine Zd (v := .int .u32 ac.addr) pl32 (B4.cell 3 rfl) ?_
 refine Zv _ (fun _ fr => x_rem rfl (fr.ev rfl) rfl (by decide) (wd_rem ac)) ?_
 refine Zv (.int .i64 ((wd ac : Nat) : Int)) (fun _ fr => x_convert Try.underlying32 Try.underlying3 rfl (fr.ev rfl) (i64w (r := ((wd ac : Nat) : Int)) rfl (by have := wd_lt ac; omega))) ?_
 refine Zan ?_
 refine Zsm ?_
 refine Zv (.int .i64 ((4 * wd ac : Nat) : Int)) (fun _ fr => x_mul rfl rfl (fr.ev rfl) (i64w (r := ((4 * wd ac : Nat) : Int)) (by omega) (by have := wd_lt ac; omega))) ?_
 refine Zv _ (fun _ fr => x_convert Try.underlying3 Try.underlying32 rfl (fr.ev rfl) (u32w (ad_eq ac) (ad_bd' ac))) ?_
 refine Zan ?_
 refine Zsr ?_
 refine Zf fo100_0 ?_
 refine Zd (v := .int .i64 ac.kind) pl3 (B4.cell 0 rfl) ?_
 refine Znn ?_
 refine Zbl ?_
 refine Zsr ?_
 refine Zv (.bool false) (fun _ fr => x_eql rfl (fr.ev rfl) rfl (decide_eq_false h0)) ?_
 refine Zan ?_
 refine Zcf ?_
 refine Zsr ?_
 refine Zv (.bool false) (fun _ fr => x_eql rfl (fr.ev rfl) rfl (decide_eq_false h1)) ?_
 refine Zan ?_
 refine Zcf ?_
 refine Zsr ?_
 refine Zv (.bool false) (fun _ fr => x_eql rfl (fr.ev rfl) rfl (decide_eq_false h2)) ?_
 refine Zan ?_
 refine Zcf ?_
 refine Zsr ?_
 refine Zv (.bool false) (fun _ fr => x_eql rfl (fr.ev rfl) rfl (decide_eq_false h3)) ?_
 refine Zan ?_
 refine Zcf ?_
 refine Zsk ?_
 refine Zb ?_
 refine Zee rfl [] trivial ?_
 have hE : actF (RS.mk cs h way last false) ac = (RS.mk cs h way last false) := act_no h0 h1 h2 h3
 rw [hE]
 replace HC := (HC.new hN3).new hN7
 replace HH := (HH.new hN3).new hN7
 replace OW := (OW.new hN3).new hN7
 have hrun : RunAt w6 (fun g => g = b ∨ inA A g ∨ inA W g ∨ FpC g ∨ FpH g) b bh (RS.mk cs h way last false) := ⟨A, cap, ps, W, wc, FpC, FpH, (by rw [hpl]; exact RB), OP, HC, HH, OW, ⟨ap_A_b, ap_W_b, ap_FpC_b, ap_FpH_b, ap2_A_W, ap2_A_FpC, ap2_A_FpH, ap2_W_FpC, ap2_W_FpH, ap2_FpC_FpH, fun _ => Iff.rfl⟩⟩
 replace hF := (hF.trNew hN3).trNew hN7
 exact ⟨_, rfl, rfl, _, hrun, hF, fun g hg => by rcases hg with rfl | hg | hg | hg | hg; exact (.inl ((hfoot _).2 (.inl rfl))); exact gA_A g hg; exact gA_W g hg; exact gA_FpC g hg; exact gA_FpH g hg⟩
theorem act_c {w : World} {Fp : Nat → Prop} {b bh : Nat} {s : RS} (H : RunAt w Fp b bh s) {k : Nat} (r : RI k s) (hk : k ≤ 10000) (ac : Ac) : Calls Try.prog 37 #[.pointer (some ⟨b, 0, none⟩), .agg (acE.arr ac)] w (Ret fun v w' => v = .tuple #[] ∧ ∃ Fp', RunAt w' Fp' b bh (actF s ac) ∧ Only Fp w w' ∧ ∀ g, Fp' g → Fp g ∨ w.heap.size ≤ g) := by
  by_cases h0 : ac.kind = 0
  · exact act_k0 H r hk ac h0
  by_cases h1 : ac.kind = 1
  · exact act_k1 H r hk ac h1
  by_cases h2 : ac.kind = 2
  · exact act_k2 H r hk ac h2
  by_cases h3 : ac.kind = 3
  · exact act_k3 H r hk ac h3
  · exact act_kx H r hk ac h0 h1 h2 h3
end Go.Proofs.Ytflnlmibkbojcaa
namespace Go.Proofs.Ytflnlmibkbojcaa
open Go.RowKit
theorem st_cases (x : Int) : x = 2 ∨ x = 3 ∨ x = 0 ∨ (x ≠ 2 ∧ x ≠ 3 ∧ x ≠ 0) := by omega
def Inv (cs : List CD) (n : Nat) (i al so : Nat) : Prop :=
  (al = 0 ∧ (1 ≤ so → ∃ j, j < i ∧ stateOf (cs.getD j cd0).L ((n : Nat) : Int) ≠ 0)) ∨ (al = 1 ∧ so = 1 ∧ ∃ j, j < i ∧ wr (stateOf (cs.getD j cd0).L ((n : Nat) : Int)))
theorem inv_none {cs : List CD} {n i al so : Nat} (h : Inv cs n i al so) : Inv cs n (i + 1) al so := by
  rcases h with ⟨h1, h2⟩ | ⟨h1, h2, j, hj, h3⟩
  · refine .inl ⟨h1, fun h => ?_⟩
    obtain ⟨j, hj, h3⟩ := h2 h
    exact ⟨j, by omega, h3⟩
  · exact .inr ⟨h1, h2, j, by omega, h3⟩
theorem inv_some {k : Nat} {cs : List CD} {h : HD} {way : List Msg} {last : List Int} (r : RI k (RS.mk cs h way last false)) {n i al so : Nat} (hn : n < 4) (hi : i < cs.length) (hI : Inv cs n i al so) (hs : stateOf (cs.getD i cd0).L ((n : Nat) : Int) ≠ 0) : Inv cs n (i + 1) al (so + 1) := by
  rcases hI with ⟨h1, h2⟩ | ⟨h1, h2, j, hj, h3⟩
  · exact .inl ⟨h1, fun _ => ⟨i, by omega, hs⟩⟩
  · refine absurd ?_ hs
    have hj0 : stateOf (cs.getD j cd0).L ((n : Nat) : Int) ≠ 0 := fun e => by
      rcases h3 with h3 | h3 <;> omega
    exact (RI.right r n hn j (show j < cs.length by omega) hj0).2 h3 i hi (by omega)
theorem inv_wr {k : Nat} {cs : List CD} {h : HD} {way : List Msg} {last : List Int} (r : RI k (RS.mk cs h way last false)) {n i al so : Nat} (hn : n < 4) (hi : i < cs.length) (hI : Inv cs n i al so) (hw : wr (stateOf (cs.getD i cd0).L ((n : Nat) : Int))) : Inv cs n (i + 1) (al + 1) (so + 1) := by
  have hs : stateOf (cs.getD i cd0).L ((n : Nat) : Int) ≠ 0 := fun e => by rcases hw with h | h <;> omega
  have hr := (RI.right r n hn i hi hs).2 hw
  have no : ∀ j, j < i → stateOf (cs.getD j cd0).L ((n : Nat) : Int) = 0 := fun j hj => hr j (show j < cs.length by omega) (by omega)
  rcases hI with ⟨h1, h2⟩ | ⟨h1, h2, j, hj, h3⟩
  · have h0 : so = 0 := by
      rcases Nat.eq_zero_or_pos so with h | h
      · exact h
      · obtain ⟨j, hj, h3⟩ := h2 h
        exact absurd (no j hj) h3
    exact .inr ⟨by omega, by omega, i, by omega, hw⟩
  · have := no j hj
    rcases h3 with h3 | h3 <;> omega
theorem rright_c {w : World} {Fp : Nat → Prop} {b bh : Nat} {s : RS} (H : RunAt w Fp b bh s) {k : Nat} (r : RI k s)  : Calls Try.prog 38 #[.pointer (some ⟨b, 0, none⟩)] w (Ret fun v w' => v = .bool true ∧ New w w') := by
 obtain ⟨cs, h, way, last, bad⟩ := s
 obtain rfl : bad = false := r.bad
 have hl16 : last.length = 16 := r.len
 have hcl := run_cs_len r
 have hfw := run_few r
 change way.length ≤ 400 at hfw
 change 1 ≤ cs.length ∧ cs.length ≤ 4 at hcl
 obtain ⟨A, cap, ps, W, wc, FpC, FpH, RB, OP, HC, HH, OW, ⟨ap_A_b, ap_W_b, ap_FpC_b, ap_FpH_b, ap2_A_W, ap2_A_FpC, ap2_A_FpH, ap2_W_FpC, ap2_W_FpH, ap2_FpC_FpH, hfoot⟩⟩ := H
 have hpl : ps.length = cs.length := HC.len
 replace RB : Blk w b 97 (runA A ps.length cap bh W way.length wc last false) := RB
 replace HC : CachesAt w FpC ps cs := HC
 replace HH : HomeAt w FpH bh h := HH
 replace OW : Own msgE w W wc way := OW
 have hOl := OP.len
 have hWl := OW.len
 unfold maxLen at hOl hWl
 have hpk : ∀ p n, 1 ≤ n → pickAt p n < n := fun p n h => pickAt_lt p n h
 rw [hpl] at RB
 have hF := Only.refl (fun _ => False) w
 refine Zen 97 Try.func38 ?_
 refine Zsr ?_
 refine Zaq ?_
 refine Zsr ?_
 refine Zan ?_
 refine Zbl ?_
 intro a fr
 refine fx_loop (fun nM a wL => ∃ n : Nat, nM = 4 - n ∧ Fr (97, []) [(0, .pointer (some ⟨b, 0, none⟩)), (2, .bool false), (3, .int .i64 ((n : Nat) : Int))] a ∧ Only (fun _ => False) w wL ∧ Blk wL b 97 (runA A cs.length cap bh W way.length wc last false) ∧ Own ptrE wL A cap ps ∧ CachesAt wL FpC ps cs ∧ n ≤ 4) (n0 := _) ⟨0, rfl, fr.sub ⟨rfl, rfl, rfl, trivial⟩, hF, RB, OP, HC, by omega⟩ ?_
 clear fr a
 rintro n2 a w1 ⟨n, rfl, fr, hF, RB, OP, HC, hn4⟩
 revert a
 refine Zsq ?_
 refine Zsm ?_
 refine Zv _ (fun _ fr => x_lss rfl (fr.ev rfl) rfl rfl) ?_
 refine Znn ?_
 refine Zcd (fun hc3 => ?_) (fun hc3 => ?_)
 ·have hc3 := of_decide_eq_true hc3
  refine Zkn ?_
  refine Zsq ?_
  refine Zbl ?_
  refine Zsr ?_
  refine Za ?_
  refine Zaq ?_
  refine Zsr ?_
  refine Zan ?_
  refine Zbl ?_
  intro a fr
  refine fx_loop (fun nM a wL => ∃ i : Nat, ∃ al : Nat, ∃ so : Nat, nM = cs.length - i ∧ Fr (97, []) [(0, .pointer (some ⟨b, 0, none⟩)), (2, .bool false), (3, .int .i64 ((n : Nat) : Int)), (4, .int .i64 ((al : Nat) : Int)), (5, .int .i64 ((so : Nat) : Int)), (6, .int .i64 ((i : Nat) : Int))] a ∧ Only (fun _ => False) w wL ∧ Blk wL b 97 (runA A cs.length cap bh W way.length wc last false) ∧ Own ptrE wL A cap ps ∧ CachesAt wL FpC ps cs ∧ i ≤ cs.length ∧ al ≤ i ∧ so ≤ i ∧ Inv cs n i al so) (n0 := _) ⟨0, 0, 0, rfl, fr.sub ⟨rfl, rfl, rfl, rfl, rfl, rfl, trivial⟩, hF, RB, OP, HC, by omega, by omega, by omega, (.inl ⟨rfl, fun h => absurd h (by decide)⟩)⟩ ?_
  clear fr a
  rintro n5 a w4 ⟨i, al, so, rfl, fr, hF, RB, OP, HC, hi, hal, hso, hI⟩
  revert a
  refine Zsq ?_
  refine Zsm ?_
  refine Zm ?_
  refine Zn ?_
  refine Zf fo97_0 ?_
  refine Zd (v := .slice A cs.length cap) pl94 (RB.cell 0 rfl) ?_
  refine Zv _ (fun _ fr => x_len Try.underlying94 rfl (fr.ev rfl)) ?_
  refine Zv _ (fun _ fr => x_lss rfl (fr.ev rfl) (fr.ev rfl) rfl) ?_
  refine Znn ?_
  refine Zcd (fun hc6 => ?_) (fun hc6 => ?_)
  ·have hc6 := of_decide_eq_true hc6
   refine Zkn ?_
   refine Zsq ?_
   refine Zbl ?_
   refine Zsm ?_
   refine Zn ?_
   refine Zf fo97_0 ?_
   refine Zd (v := .slice A cs.length cap) pl94 (RB.cell 0 rfl) ?_
   refine Zm ?_
   obtain ⟨g7, o8, hA9⟩ := (OP.view).some_ (by first | omega | decide)
   refine Zv (.pointer (some ⟨g7, o8 + i * 1, none⟩)) (fun _ fr => x_indexV Try.underlying94 sz25 rfl (fr.ev rfl) hA9 (fr.ev rfl) (by first | omega | decide) rfl) ?_
   refine Zd pl25 (range_cell ((OP.view).elem hA9 i 0 (by first | omega | decide)) 0 rfl rfl) ?_
   refine Zm ?_
   refine Zv _ (fun _ fr => x_convert Try.underlying3 Try.underlying32 rfl (fr.ev rfl) (u32w (r := ((n : Nat) : Int)) rfl (by omega))) ?_
   refine Zk (args := #[.pointer (some ⟨(ps.getD i 0), 0, none⟩), .int .u32 ((n : Nat) : Int)]) cf34 (cs_state HC (i := i) (by omega) ((n : Nat) : Int) (by omega)) ?_
   rintro v w10 ⟨rfl, hN11⟩
   refine Zaq ?_
   refine Zsq ?_
   rcases st_cases (stateOf (cs.getD i cd0).L ((n : Nat) : Int)) with hs | hs | hs | ⟨hs2, hs3, hs0⟩
   ·have hs0 : stateOf (cs.getD i cd0).L ((n : Nat) : Int) ≠ 0 := by omega
    have hw0 : wr (stateOf (cs.getD i cd0).L ((n : Nat) : Int)) := .inl hs
    refine Zgm ?_
    refine Zv (.bool true) (fun _ fr => x_eql rfl (fr.ev rfl) rfl (decide_eq_true (by omega))) ?_
    refine Zm ?_
    refine Zss ?_
    refine Zpt ?_
    refine Znt ?_
    refine Zgm ?_
    refine Zv _ (fun _ fr => x_add rfl (fr.ev rfl) rfl (i64w (r := ((al + 1 : Nat) : Int)) (by omega) (by omega))) ?_
    refine Zan ?_
    refine Zsm ?_
    refine Zv (.bool true) (fun _ fr => x_neq rfl (fr.ev rfl) rfl (decide_eq_true (by omega))) ?_
    refine Znt ?_
    refine Zsm ?_
    refine Zv _ (fun _ fr => x_add rfl (fr.ev rfl) rfl (i64w (r := ((so + 1 : Nat) : Int)) (by omega) (by omega))) ?_
    refine Zan ?_
    refine Zsr ?_
    refine Zan ?_
    refine Zbl ?_
    intro a fr
    replace RB := RB.new hN11
    replace OP := OP.new hN11
    replace HC := HC.new hN11
    replace hF := hF.trNew hN11
    refine fx_loop (fun nM a wL => ∃ q : Nat, nM = 4 - q ∧ Fr (97, []) [(0, .pointer (some ⟨b, 0, none⟩)), (2, .bool false), (3, .int .i64 ((n : Nat) : Int)), (4, .int .i64 ((al + 1 : Nat) : Int)), (5, .int .i64 ((so + 1 : Nat) : Int)), (6, .int .i64 ((i : Nat) : Int)), (8, .int .i64 ((q : Nat) : Int))] a ∧ Only (fun _ => False) w wL ∧ Blk wL b 97 (runA A cs.length cap bh W way.length wc last false) ∧ Own ptrE wL A cap ps ∧ CachesAt wL FpC ps cs ∧ q ≤ 4) (n0 := _) ⟨0, rfl, fr.sub ⟨rfl, rfl, rfl, rfl, rfl, rfl, rfl, trivial⟩, hF, RB, OP, HC, by omega⟩ ?_
    clear fr a
    rintro n13 a w12 ⟨q, rfl, fr, hF, RB, OP, HC, hq4⟩
    revert a
    refine Zsq ?_
    refine Zsm ?_
    refine Zv _ (fun _ fr => x_lss rfl (fr.ev rfl) rfl rfl) ?_
    refine Znn ?_
    refine Zcd (fun hc14 => ?_) (fun hc14 => ?_)
    ·have hc14 := of_decide_eq_true hc14
     refine Zkn ?_
     refine Zsq ?_
     refine Zbl ?_
     refine Zsm ?_
     refine Zn ?_
     refine Zf fo97_0 ?_
     refine Zd (v := .slice A cs.length cap) pl94 (RB.cell 0 rfl) ?_
     refine Zm ?_
     refine Zv (.pointer (some ⟨g7, o8 + i * 1, none⟩)) (fun _ fr => x_indexV Try.underlying94 sz25 rfl (fr.ev rfl) hA9 (fr.ev rfl) (by first | omega | decide) rfl) ?_
     refine Zd pl25 (range_cell ((OP.view).elem hA9 i 0 (by first | omega | decide)) 0 rfl rfl) ?_
     refine Zm ?_
     refine Zv _ (fun _ fr => x_mul rfl rfl (fr.ev rfl) (i64w (r := ((16 * n : Nat) : Int)) (by omega) (by omega))) ?_
     refine Zm ?_
     refine Zv _ (fun _ fr => x_mul rfl rfl (fr.ev rfl) (i64w (r := ((4 * q : Nat) : Int)) (by omega) (by omega))) ?_
     refine Zv _ (fun _ fr => x_add rfl (fr.ev rfl) (fr.ev rfl) (i64w (r := (((16 * n) + (4 * q) : Nat) : Int)) (by omega) (by omega))) ?_
     refine Zv _ (fun _ fr => x_convert Try.underlying3 Try.underlying32 rfl (fr.ev rfl) (u32w (r := (((16 * n) + (4 * q) : Nat) : Int)) rfl (by omega))) ?_
     refine Zk (args := #[.pointer (some ⟨(ps.getD i 0), 0, none⟩), .int .u32 (((16 * n) + (4 * q) : Nat) : Int), .int .i64 4]) cf17 (cs_read HC (i := i) (by omega) (((16 * n) + (4 * q) : Nat) : Int) (by omega) 4) ?_
     rintro v w15 ⟨rfl, hN16⟩
     refine Zm ?_
     refine Ztt ?_
     refine Za ?_
     refine Zaq ?_
     have hrd : (readF (cs.getD i cd0).L (((16 * n) + (4 * q) : Nat) : Int) 4) = (last.getD (4 * n + q) 0, 0) := (RI.right r n (by omega) i (show i < cs.length by omega) hs0).1 q (by omega)
     have hrd2 : (readF (cs.getD i cd0).L (((16 * n) + (4 * q) : Nat) : Int) 4).2 = 0 := by rw [hrd]
     have hrd1 : (readF (cs.getD i cd0).L (((16 * n) + (4 * q) : Nat) : Int) 4).1 = last.getD ((4 * n) + q) 0 := by rw [hrd]
     refine Zgm ?_
     refine Zv (.bool false) (fun _ fr => x_neq rfl (fr.ev rfl) rfl (decide_eq_false (by omega))) ?_
     refine Zmm ?_
     refine Zmm ?_
     refine Zv _ (fun _ fr => x_mul rfl rfl (fr.ev rfl) (i64w (r := ((4 * n : Nat) : Int)) (by omega) (by omega))) ?_
     refine Zm ?_
     refine Zv _ (fun _ fr => x_add rfl (fr.ev rfl) (fr.ev rfl) (i64w (r := (((4 * n) + q : Nat) : Int)) (by omega) (by omega))) ?_
     refine Zn ?_
     refine Zf fo97_3 ?_
     refine Zv (.pointer (some ⟨b, 3 + ((4 * n) + q), none⟩)) (fun _ fr => x_indexArr Try.underlying95 sz16 rfl (fr.ev rfl) (fr.ev rfl) (by omega) (by omega)) ?_
     replace RB := RB.new hN16
     refine Zd (v := .int .u32 (last.getD ((4 * n) + q) 0)) pl32 (RB.cell _ (run_last (by rw [hl16]; exact (by omega)))) ?_
     refine Zv (.bool false) (fun _ fr => x_neq rfl (fr.ev rfl) (fr.ev rfl) (by first | (exact decide_eq_false (fun hn => hn hrd1)) | simp [hrd1])) ?_
     refine Zpf ?_
     refine Znf ?_
     refine Zsk ?_
     refine Zbn ?_
     refine Zgm ?_
     refine Zv _ (fun _ fr => x_add rfl (fr.ev rfl) rfl (i64w (r := ((q + 1 : Nat) : Int)) (by omega) (by omega))) ?_
     refine Za ?_
     intro a fr
     refine wpList_nil ?_
     refine fx_next ?_
     replace OP := OP.new hN16
     replace HC := HC.new hN16
     replace hF := hF.trNew hN16
     exact ⟨_, by omega, (q + 1), rfl, fr.sub ⟨rfl, rfl, rfl, rfl, rfl, rfl, rfl, trivial⟩, hF, RB, OP, HC, by omega⟩
    ·have hc14 := of_decide_eq_false hc14
     refine Zex ?_
     refine Zxt ?_
     refine Zxt ?_
     refine Zxx ?_
     refine Zbn ?_
     refine Zgm ?_
     refine Zv _ (fun _ fr => x_add rfl (fr.ev rfl) rfl (i64w (r := ((i + 1 : Nat) : Int)) (by omega) (by omega))) ?_
     refine Za ?_
     intro a fr
     refine wpList_nil ?_
     refine fx_next ?_
     exact ⟨_, by omega, (i + 1), (al + 1), (so + 1), rfl, fr.sub ⟨rfl, rfl, rfl, rfl, rfl, rfl, trivial⟩, hF, RB, OP, HC, by omega, by omega, by omega, inv_wr r (by omega) (by omega) hI hw0⟩
   ·have hs0 : stateOf (cs.getD i cd0).L ((n : Nat) : Int) ≠ 0 := by omega
    have hw0 : wr (stateOf (cs.getD i cd0).L ((n : Nat) : Int)) := .inr hs
    refine Zgm ?_
    refine Zv (.bool false) (fun _ fr => x_eql rfl (fr.ev rfl) rfl (decide_eq_false (by omega))) ?_
    refine Zmm ?_
    refine Zv (.bool true) (fun _ fr => x_eql rfl (fr.ev rfl) rfl (decide_eq_true (by omega))) ?_
    refine Zpf ?_
    refine Znt ?_
    refine Zgm ?_
    refine Zv _ (fun _ fr => x_add rfl (fr.ev rfl) rfl (i64w (r := ((al + 1 : Nat) : Int)) (by omega) (by omega))) ?_
    refine Zan ?_
    refine Zsm ?_
    refine Zv (.bool true) (fun _ fr => x_neq rfl (fr.ev rfl) rfl (decide_eq_true (by omega))) ?_
    refine Znt ?_
    refine Zsm ?_
    refine Zv _ (fun _ fr => x_add rfl (fr.ev rfl) rfl (i64w (r := ((so + 1 : Nat) : Int)) (by omega) (by omega))) ?_
    refine Zan ?_
    refine Zsr ?_
    refine Zan ?_
    refine Zbl ?_
    intro a fr
    replace RB := RB.new hN11
    replace OP := OP.new hN11
    replace HC := HC.new hN11
    replace hF := hF.trNew hN11
    refine fx_loop (fun nM a wL => ∃ q : Nat, nM = 4 - q ∧ Fr (97, []) [(0, .pointer (some ⟨b, 0, none⟩)), (2, .bool false), (3, .int .i64 ((n : Nat) : Int)), (4, .int .i64 ((al + 1 : Nat) : Int)), (5, .int .i64 ((so + 1 : Nat) : Int)), (6, .int .i64 ((i : Nat) : Int)), (8, .int .i64 ((q : Nat) : Int))] a ∧ Only (fun _ => False) w wL ∧ Blk wL b 97 (runA A cs.length cap bh W way.length wc last false) ∧ Own ptrE wL A cap ps ∧ CachesAt wL FpC ps cs ∧ q ≤ 4) (n0 := _) ⟨0, rfl, fr.sub ⟨rfl, rfl, rfl, rfl, rfl, rfl, rfl, trivial⟩, hF, RB, OP, HC, by omega⟩ ?_
    clear fr a
    rintro n18 a w17 ⟨q, rfl, fr, hF, RB, OP, HC, hq4⟩
    revert a
    refine Zsq ?_
    refine Zsm ?_
    refine Zv _ (fun _ fr => x_lss rfl (fr.ev rfl) rfl rfl) ?_
    refine Znn ?_
    refine Zcd (fun hc19 => ?_) (fun hc19 => ?_)
    ·have hc19 := of_decide_eq_true hc19
     refine Zkn ?_
     refine Zsq ?_
     refine Zbl ?_
     refine Zsm ?_
     refine Zn ?_
     refine Zf fo97_0 ?_
     refine Zd (v := .slice A cs.length cap) pl94 (RB.cell 0 rfl) ?_
     refine Zm ?_
     refine Zv (.pointer (some ⟨g7, o8 + i * 1, none⟩)) (fun _ fr => x_indexV Try.underlying94 sz25 rfl (fr.ev rfl) hA9 (fr.ev rfl) (by first | omega | decide) rfl) ?_
     refine Zd pl25 (range_cell ((OP.view).elem hA9 i 0 (by first | omega | decide)) 0 rfl rfl) ?_
     refine Zm ?_
     refine Zv _ (fun _ fr => x_mul rfl rfl (fr.ev rfl) (i64w (r := ((16 * n : Nat) : Int)) (by omega) (by omega))) ?_
     refine Zm ?_
     refine Zv _ (fun _ fr => x_mul rfl rfl (fr.ev rfl) (i64w (r := ((4 * q : Nat) : Int)) (by omega) (by omega))) ?_
     refine Zv _ (fun _ fr => x_add rfl (fr.ev rfl) (fr.ev rfl) (i64w (r := (((16 * n) + (4 * q) : Nat) : Int)) (by omega) (by omega))) ?_
     refine Zv _ (fun _ fr => x_convert Try.underlying3 Try.underlying32 rfl (fr.ev rfl) (u32w (r := (((16 * n) + (4 * q) : Nat) : Int)) rfl (by omega))) ?_
     refine Zk (args := #[.pointer (some ⟨(ps.getD i 0), 0, none⟩), .int .u32 (((16 * n) + (4 * q) : Nat) : Int), .int .i64 4]) cf17 (cs_read HC (i := i) (by omega) (((16 * n) + (4 * q) : Nat) : Int) (by omega) 4) ?_
     rintro v w20 ⟨rfl, hN21⟩
     refine Zm ?_
     refine Ztt ?_
     refine Za ?_
     refine Zaq ?_
     have hrd : (readF (cs.getD i cd0).L (((16 * n) + (4 * q) : Nat) : Int) 4) = (last.getD (4 * n + q) 0, 0) := (RI.right r n (by omega) i (show i < cs.length by omega) hs0).1 q (by omega)
     have hrd2 : (readF (cs.getD i cd0).L (((16 * n) + (4 * q) : Nat) : Int) 4).2 = 0 := by rw [hrd]
     have hrd1 : (readF (cs.getD i cd0).L (((16 * n) + (4 * q) : Nat) : Int) 4).1 = last.getD ((4 * n) + q) 0 := by rw [hrd]
     refine Zgm ?_
     refine Zv (.bool false) (fun _ fr => x_neq rfl (fr.ev rfl) rfl (decide_eq_false (by omega))) ?_
     refine Zmm ?_
     refine Zmm ?_
     refine Zv _ (fun _ fr => x_mul rfl rfl (fr.ev rfl) (i64w (r := ((4 * n : Nat) : Int)) (by omega) (by omega))) ?_
     refine Zm ?_
     refine Zv _ (fun _ fr => x_add rfl (fr.ev rfl) (fr.ev rfl) (i64w (r := (((4 * n) + q : Nat) : Int)) (by omega) (by omega))) ?_
     refine Zn ?_
     refine Zf fo97_3 ?_
     refine Zv (.pointer (some ⟨b, 3 + ((4 * n) + q), none⟩)) (fun _ fr => x_indexArr Try.underlying95 sz16 rfl (fr.ev rfl) (fr.ev rfl) (by omega) (by omega)) ?_
     replace RB := RB.new hN21
     refine Zd (v := .int .u32 (last.getD ((4 * n) + q) 0)) pl32 (RB.cell _ (run_last (by rw [hl16]; exact (by omega)))) ?_
     refine Zv (.bool false) (fun _ fr => x_neq rfl (fr.ev rfl) (fr.ev rfl) (by first | (exact decide_eq_false (fun hn => hn hrd1)) | simp [hrd1])) ?_
     refine Zpf ?_
     refine Znf ?_
     refine Zsk ?_
     refine Zbn ?_
     refine Zgm ?_
     refine Zv _ (fun _ fr => x_add rfl (fr.ev rfl) rfl (i64w (r := ((q + 1 : Nat) : Int)) (by omega) (by omega))) ?_
     refine Za ?_
     intro a fr
     refine wpList_nil ?_
     refine fx_next ?_
     replace OP := OP.new hN21
     replace HC := HC.new hN21
     replace hF := hF.trNew hN21
     exact ⟨_, by omega, (q + 1), rfl, fr.sub ⟨rfl, rfl, rfl, rfl, rfl, rfl, rfl, trivial⟩, hF, RB, OP, HC, by omega⟩
    ·have hc19 := of_decide_eq_false hc19
     refine Zex ?_
     refine Zxt ?_
     refine Zxt ?_
     refine Zxx ?_
     refine Zbn ?_
     refine Zgm ?_
     refine Zv _ (fun _ fr => x_add rfl (fr.ev rfl) rfl (i64w (r := ((i + 1 : Nat) : Int)) (by omega) (by omega))) ?_
     refine Za ?_
     intro a fr
     refine wpList_nil ?_
     refine fx_next ?_
     exact ⟨_, by omega, (i + 1), (al + 1), (so + 1), rfl, fr.sub ⟨rfl, rfl, rfl, rfl, rfl, rfl, trivial⟩, hF, RB, OP, HC, by omega, by omega, by omega, inv_wr r (by omega) (by omega) hI hw0⟩
   ·refine Zgm ?_
    refine Zv (.bool false) (fun _ fr => x_eql rfl (fr.ev rfl) rfl (decide_eq_false (by omega))) ?_
    refine Zmm ?_
    refine Zv (.bool false) (fun _ fr => x_eql rfl (fr.ev rfl) rfl (decide_eq_false (by omega))) ?_
    refine Zpf ?_
    refine Znf ?_
    refine Zkn ?_
    refine Zsm ?_
    refine Zv (.bool false) (fun _ fr => x_neq rfl (fr.ev rfl) rfl (decide_eq_false (by omega))) ?_
    refine Znf ?_
    refine Zsk ?_
    refine Zbn ?_
    refine Zgm ?_
    refine Zv _ (fun _ fr => x_add rfl (fr.ev rfl) rfl (i64w (r := ((i + 1 : Nat) : Int)) (by omega) (by omega))) ?_
    refine Za ?_
    intro a fr
    refine wpList_nil ?_
    refine fx_next ?_
    replace RB := RB.new hN11
    replace OP := OP.new hN11
    replace HC := HC.new hN11
    replace hF := hF.trNew hN11
    exact ⟨_, by omega, (i + 1), al, so, rfl, fr.sub ⟨rfl, rfl, rfl, rfl, rfl, rfl, trivial⟩, hF, RB, OP, HC, by omega, by omega, by omega, inv_none hI⟩
   ·refine Zgm ?_
    refine Zv (.bool false) (fun _ fr => x_eql rfl (fr.ev rfl) rfl (decide_eq_false hs2)) ?_
    refine Zmm ?_
    refine Zv (.bool false) (fun _ fr => x_eql rfl (fr.ev rfl) rfl (decide_eq_false hs3)) ?_
    refine Zpf ?_
    refine Znf ?_
    refine Zkn ?_
    refine Zsm ?_
    refine Zv (.bool true) (fun _ fr => x_neq rfl (fr.ev rfl) rfl (by first | (exact decide_eq_true hs0) | simp [hs0])) ?_
    refine Znt ?_
    refine Zsm ?_
    refine Zv _ (fun _ fr => x_add rfl (fr.ev rfl) rfl (i64w (r := ((so + 1 : Nat) : Int)) (by omega) (by omega))) ?_
    refine Zan ?_
    refine Zsr ?_
    refine Zan ?_
    refine Zbl ?_
    intro a fr
    replace RB := RB.new hN11
    replace OP := OP.new hN11
    replace HC := HC.new hN11
    replace hF := hF.trNew hN11
    refine fx_loop (fun nM a wL => ∃ q : Nat, nM = 4 - q ∧ Fr (97, []) [(0, .pointer (some ⟨b, 0, none⟩)), (2, .bool false), (3, .int .i64 ((n : Nat) : Int)), (4, .int .i64 ((al : Nat) : Int)), (5, .int .i64 ((so + 1 : Nat) : Int)), (6, .int .i64 ((i : Nat) : Int)), (8, .int .i64 ((q : Nat) : Int))] a ∧ Only (fun _ => False) w wL ∧ Blk wL b 97 (runA A cs.length cap bh W way.length wc last false) ∧ Own ptrE wL A cap ps ∧ CachesAt wL FpC ps cs ∧ q ≤ 4) (n0 := _) ⟨0, rfl, fr.sub ⟨rfl, rfl, rfl, rfl, rfl, rfl, rfl, trivial⟩, hF, RB, OP, HC, by omega⟩ ?_
    clear fr a
    rintro n23 a w22 ⟨q, rfl, fr, hF, RB, OP, HC, hq4⟩
    revert a
    refine Zsq ?_
    refine Zsm ?_
    refine Zv _ (fun _ fr => x_lss rfl (fr.ev rfl) rfl rfl) ?_
    refine Znn ?_
    refine Zcd (fun hc24 => ?_) (fun hc24 => ?_)
    ·have hc24 := of_decide_eq_true hc24
     refine Zkn ?_
     refine Zsq ?_
     refine Zbl ?_
     refine Zsm ?_
     refine Zn ?_
     refine Zf fo97_0 ?_
     refine Zd (v := .slice A cs.length cap) pl94 (RB.cell 0 rfl) ?_
     refine Zm ?_
     refine Zv (.pointer (some ⟨g7, o8 + i * 1, none⟩)) (fun _ fr => x_indexV Try.underlying94 sz25 rfl (fr.ev rfl) hA9 (fr.ev rfl) (by first | omega | decide) rfl) ?_
     refine Zd pl25 (range_cell ((OP.view).elem hA9 i 0 (by first | omega | decide)) 0 rfl rfl) ?_
     refine Zm ?_
     refine Zv _ (fun _ fr => x_mul rfl rfl (fr.ev rfl) (i64w (r := ((16 * n : Nat) : Int)) (by omega) (by omega))) ?_
     refine Zm ?_
     refine Zv _ (fun _ fr => x_mul rfl rfl (fr.ev rfl) (i64w (r := ((4 * q : Nat) : Int)) (by omega) (by omega))) ?_
     refine Zv _ (fun _ fr => x_add rfl (fr.ev rfl) (fr.ev rfl) (i64w (r := (((16 * n) + (4 * q) : Nat) : Int)) (by omega) (by omega))) ?_
     refine Zv _ (fun _ fr => x_convert Try.underlying3 Try.underlying32 rfl (fr.ev rfl) (u32w (r := (((16 * n) + (4 * q) : Nat) : Int)) rfl (by omega))) ?_
     refine Zk (args := #[.pointer (some ⟨(ps.getD i 0), 0, none⟩), .int .u32 (((16 * n) + (4 * q) : Nat) : Int), .int .i64 4]) cf17 (cs_read HC (i := i) (by omega) (((16 * n) + (4 * q) : Nat) : Int) (by omega) 4) ?_
     rintro v w25 ⟨rfl, hN26⟩
     refine Zm ?_
     refine Ztt ?_
     refine Za ?_
     refine Zaq ?_
     have hrd : (readF (cs.getD i cd0).L (((16 * n) + (4 * q) : Nat) : Int) 4) = (last.getD (4 * n + q) 0, 0) := (RI.right r n (by omega) i (show i < cs.length by omega) hs0).1 q (by omega)
     have hrd2 : (readF (cs.getD i cd0).L (((16 * n) + (4 * q) : Nat) : Int) 4).2 = 0 := by rw [hrd]
     have hrd1 : (readF (cs.getD i cd0).L (((16 * n) + (4 * q) : Nat) : Int) 4).1 = last.getD ((4 * n) + q) 0 := by rw [hrd]
     refine Zgm ?_
     refine Zv (.bool false) (fun _ fr => x_neq rfl (fr.ev rfl) rfl (decide_eq_false (by omega))) ?_
     refine Zmm ?_
     refine Zmm ?_
     refine Zv _ (fun _ fr => x_mul rfl rfl (fr.ev rfl) (i64w (r := ((4 * n : Nat) : Int)) (by omega) (by omega))) ?_
     refine Zm ?_
     refine Zv _ (fun _ fr => x_add rfl (fr.ev rfl) (fr.ev rfl) (i64w (r := (((4 * n) + q : Nat) : Int)) (by omega) (by omega))) ?_
     refine Zn ?_
     refine Zf fo97_3 ?_
     refine Zv (.pointer (some ⟨b, 3 + ((4 * n) + q), none⟩)) (fun _ fr => x_indexArr Try.underlying95 sz16 rfl (fr.ev rfl) (fr.ev rfl) (by omega) (by omega)) ?_
     replace RB := RB.new hN26
     refine Zd (v := .int .u32 (last.getD ((4 * n) + q) 0)) pl32 (RB.cell _ (run_last (by rw [hl16]; exact (by omega)))) ?_
     refine Zv (.bool false) (fun _ fr => x_neq rfl (fr.ev rfl) (fr.ev rfl) (by first | (exact decide_eq_false (fun hn => hn hrd1)) | simp [hrd1])) ?_
     refine Zpf ?_
     refine Znf ?_
     refine Zsk ?_
     refine Zbn ?_
     refine Zgm ?_
     refine Zv _ (fun _ fr => x_add rfl (fr.ev rfl) rfl (i64w (r := ((q + 1 : Nat) : Int)) (by omega) (by omega))) ?_
     refine Za ?_
     intro a fr
     refine wpList_nil ?_
     refine fx_next ?_
     replace OP := OP.new hN26
     replace HC := HC.new hN26
     replace hF := hF.trNew hN26
     exact ⟨_, by omega, (q + 1), rfl, fr.sub ⟨rfl, rfl, rfl, rfl, rfl, rfl, rfl, trivial⟩, hF, RB, OP, HC, by omega⟩
    ·have hc24 := of_decide_eq_false hc24
     refine Zex ?_
     refine Zxt ?_
     refine Zxt ?_
     refine Zxx ?_
     refine Zbn ?_
     refine Zgm ?_
     refine Zv _ (fun _ fr => x_add rfl (fr.ev rfl) rfl (i64w (r := ((i + 1 : Nat) : Int)) (by omega) (by omega))) ?_
     refine Za ?_
     intro a fr
     refine wpList_nil ?_
     refine fx_next ?_
     exact ⟨_, by omega, (i + 1), al, (so + 1), rfl, fr.sub ⟨rfl, rfl, rfl, rfl, rfl, rfl, trivial⟩, hF, RB, OP, HC, by omega, by omega, by omega, inv_some r (by omega) (by omega) hI hs0⟩
  ·have hc6 := of_decide_eq_false hc6
   refine Zex ?_
   refine Zxt ?_
   refine Zxt ?_
   refine Zxx ?_
   refine Znx ?_
   refine Zsq ?_
   rcases hI with ⟨hA, -⟩ | ⟨hA, hS, -⟩
   ·have hA9 : ((al : Nat) : Int) = 0 := by omega
    refine Zgm ?_
    refine Zv (.bool false) (fun _ fr => x_gtr rfl (fr.ev rfl) rfl (decide_eq_false (by omega))) ?_
    refine Zmm ?_
    refine Zv (.bool false) (fun _ fr => x_eql rfl (fr.ev rfl) rfl (decide_eq_false (by omega))) ?_
    refine Zm ?_
    refine Zss ?_
    refine Zpf ?_
    refine Zpf ?_
    refine Znf ?_
    refine Zsk ?_
    refine Zbn ?_
    refine Zgm ?_
    refine Zv _ (fun _ fr => x_add rfl (fr.ev rfl) rfl (i64w (r := ((n + 1 : Nat) : Int)) (by omega) (by omega))) ?_
    refine Za ?_
    intro a fr
    refine wpList_nil ?_
    refine fx_next ?_
    exact ⟨_, by omega, (n + 1), rfl, fr.sub ⟨rfl, rfl, rfl, trivial⟩, hF, RB, OP, HC, by omega⟩
   ·have hA9 : ((al : Nat) : Int) = 1 := by omega
    have hS9 : ((so : Nat) : Int) = 1 := by omega
    refine Zgm ?_
    refine Zv (.bool false) (fun _ fr => x_gtr rfl (fr.ev rfl) rfl (decide_eq_false (by omega))) ?_
    refine Zmm ?_
    refine Zv (.bool true) (fun _ fr => x_eql rfl (fr.ev rfl) rfl (decide_eq_true (by omega))) ?_
    refine Zmm ?_
    refine Zv (.bool false) (fun _ fr => x_gtr rfl (fr.ev rfl) rfl (decide_eq_false (by omega))) ?_
    refine Zpt ?_
    refine Zpf ?_
    refine Znf ?_
    refine Zsk ?_
    refine Zbn ?_
    refine Zgm ?_
    refine Zv _ (fun _ fr => x_add rfl (fr.ev rfl) rfl (i64w (r := ((n + 1 : Nat) : Int)) (by omega) (by omega))) ?_
    refine Za ?_
    intro a fr
    refine wpList_nil ?_
    refine fx_next ?_
    exact ⟨_, by omega, (n + 1), rfl, fr.sub ⟨rfl, rfl, rfl, trivial⟩, hF, RB, OP, HC, by omega⟩
 ·have hc3 := of_decide_eq_false hc3
  refine Zex ?_
  refine Zxt ?_
  refine Zxt ?_
  refine Zxx ?_
  refine Znx ?_
  refine Zsm ?_
  refine Zn ?_
  refine Zf fo97_4 ?_
  refine Zd (v := .bool false) pl4 (RB.cell 19 (run_bad hl16)) ?_
  refine Zv (.bool true) (fun _ fr => x_not rfl (fr.ev rfl) rfl) ?_
  refine Zar ?_
  refine Zre rfl [_] ⟨rfl, trivial⟩ ?_
  exact ⟨_, rfl, rfl, hF⟩
end Go.Proofs.Ytflnlmibkbojcaa
namespace Go.Proofs.Ytflnlmibkbojcaa
open Go.RowKit
def setB (b : B16) (j : Nat) (v : Int) (h : 0 ≤ v ∧ v < 256) : B16 := ⟨b.1.set j v, by rw [List.length_set]; exact b.2.1, fun a ha => by
  rcases List.mem_or_eq_of_mem_set ha with ha | rfl
  · exact b.2.2 a ha
  · exact h⟩
theorem msg_setb (m : Msg) (j : Nat) (v : Int) (h : 0 ≤ v ∧ v < 256) : (msgE.arr m).setIfInBounds (4 + j) (.int .u8 v) = msgE.arr { m with bs := setB m.bs j v h } := by
  apply Array.toList_inj.1
  rw [Array.toList_setIfInBounds, Enc.toList, Enc.toList]
  show (Msg.cells _).set (4 + j) _ = Msg.cells _
  rw [Nat.add_comm 4]
  simp [Msg.cells, setB, List.map_set]
def kd0 : CD := ⟨0, 1, 1, [], none, none⟩
def kd1 : CD := ⟨0, 1, 1, [], some (3, false), none⟩
def km1 : Msg := mkM 1 0 4 3
def km2 : Msg := { mkM 9 4 0 3 with bs := setB b16z 0 7 (by decide) }
def kl2 : Ln := mkL 3 2 (setB b16z 0 7 (by decide))
def kd2 : CD := ⟨0, 1, 1, [kl2], none, none⟩
def km3 : Msg := mkM 13 0 4 3
theorem known_1 : askF kd0 3 (by decide) false 0 = (kd1, [km1], 0) := by rfl
theorem known_2 : takeF kd1 km2 = (kd2, [km3], 0) := by rfl
theorem known_3 : readF kd2.L 48 4 = (7, 0) := by decide +kernel
section
variable {w : World} {Fp : Nat → Prop} {b : Nat}
theorem k_ask (H : CacAt w Fp b kd0) : Calls Try.prog 13 #[.pointer (some ⟨b, 0, none⟩), .int .u32 3, .bool false, .int .i64 0] w (Ret fun v w' => TakeU w Fp b (kd1, [km1], 0) v w') := by
  have := u_ask H 3 (by decide) false 0
  rwa [known_1] at this
theorem k_take (H : CacAt w Fp b kd1) : Calls Try.prog 14 #[.pointer (some ⟨b, 0, none⟩), .agg (msgE.arr km2)] w (Ret fun v w' => TakeU w Fp b (kd2, [km3], 0) v w') := by
  have := u_take H km2
  rwa [known_2] at this
theorem k_read (H : CacAt w Fp b kd2) : Calls Try.prog 17 #[.pointer (some ⟨b, 0, none⟩), .int .u32 48, .int .i64 4] w (Ret fun v w' => v = .tuple #[.int .u32 7, .int .i64 0] ∧ New w w') := by
  have := u_read H 48 (by decide) 4
  rwa [known_3] at this
end
end Go.Proofs.Ytflnlmibkbojcaa
namespace Go.Proofs.Ytflnlmibkbojcaa
open Go.RowKit
theorem known_c (w : World) : Calls Try.prog 11 #[] w (Ret fun v w' => v = .bool true ∧ New w w') := by
 have hF := Only.refl (fun _ => False) w
 refine Zen 75 Try.func11 ?_
 refine Zsr ?_
 refine Zan ?_
 refine Zsr ?_
 refine Zk (args := #[.int .i64 0, .int .i64 1, .int .i64 1]) cf12 (u_new 0 1 1 (by omega) (by decide) _) ?_
 rintro v w5 ⟨b1, Fp2, rfl, H3, hb4, hN6⟩
 have gA_Fp2 := gA_newP hF hb4
 refine Zm ?_
 refine Ztt ?_
 refine Za ?_
 refine Zan ?_
 refine Zsm ?_
 refine Zk cf13 (k_ask H3) ?_
 rintro v w14 ⟨A10, cap11, rfl, O12, hA13, Fp7, H8, hN15, mv9⟩
 replace hF := hF.trNew hN6
 have gA_Fp7 := gA_movedP hF mv9 gA_Fp2
 have hdok_H3 := H3.2
 clear H3
 have ap2_Fp7_A10 := H8.msg_ap O12
 refine Zm ?_
 refine Ztt ?_
 refine Za ?_
 refine Zan ?_
 refine Zsr ?_
 refine Zv (.agg (msgE.arr (mkM 9 4 0 3))) (fun _ _ => x_build (cells := msgE.arr (mkM 9 4 0 3)) rfl (by kernel_rfl)) ?_
 refine Zna (z := zv3) (cs := msgE.arr msg0) (by kernel_rfl) fun b16 w17 hN18 B19 hb20 => ?_
 have ap_Fp7_b16 := H8.apart hb20
 have ap_A10_b16 := O12.apart hb20
 replace hF := hF.locP hN15 gA_Fp2
 have g_b16 := hF.sz hb20
 refine ZsS sz35 (msgE.all _) B19 (msgE.size _) (msgE.size _) fun w21 hO22 B19 => ?_
 refine Znn ?_
 refine Zsr ?_
 refine Zf fo35_4 ?_
 refine Zv (.pointer (some ⟨b16, 4 + 0, none⟩)) (fun _ fr => x_indexArr Try.underlying22 sz16 rfl (fr.ev rfl) rfl (by omega) (show 4 + 0 * 1 = 4 + 0 by omega)) ?_
 refine Zs1 (cs' := msgE.arr { (mkM 9 4 0 3) with bs := setB (mkM 9 4 0 3).bs 0 7 (by decide) }) sz5 B19 (by rw [msgE.size]; show _ < 20; omega) (msg_setb _ 0 _ (by decide)) fun w23 hO24 B19 => ?_
 refine Znq ?_
 replace B19 : Blk w23 b16 35 (msgE.arr km2) := B19
 refine Zgm ?_
 refine ZE msgE ag35 (B19.rangeE msgE) ?_
 replace H8 := ((H8.new hN18).only hO22 (ne1P ap_Fp7_b16)).only hO24 (ne1P ap_Fp7_b16)
 refine Zk cf14 (k_take H8) ?_
 rintro v w32 ⟨A28, cap29, rfl, O30, hA31, Fp25, H26, hN33, mv27⟩
 have hdok_H8 := H8.2
 clear H8
 refine Zm ?_
 refine Ztt ?_
 refine Za ?_
 refine Zan ?_
 refine Zsm ?_
 refine Zk cf17 (k_read H26) ?_
 rintro v w34 ⟨rfl, hN35⟩
 refine Zm ?_
 refine Ztt ?_
 refine Za ?_
 refine Zan ?_
 refine Zsm ?_
 refine Zv (.bool true) (fun _ fr => x_eql rfl (fr.ev rfl) rfl rfl) ?_
 refine Zmm ?_
 refine Zv (.bool true) (fun _ fr => x_eql rfl (fr.ev rfl) rfl rfl) ?_
 refine Zpt ?_
 refine Zmm ?_
 refine Zv (.bool true) (fun _ fr => x_eql rfl (fr.ev rfl) rfl rfl) ?_
 refine Zpt ?_
 refine Zmm ?_
 refine Zv (.bool true) (fun _ fr => x_eql rfl (fr.ev rfl) rfl rfl) ?_
 refine Zpt ?_
 refine Zmm ?_
 refine Zv _ (fun _ fr => x_len Try.underlying29 rfl (fr.ev rfl)) ?_
 refine Zv (.bool true) (fun _ fr => x_eql rfl (fr.ev rfl) rfl rfl) ?_
 refine Zpt ?_
 refine Zmm ?_
 replace O12 := ((((O12.new hN18).only hO22 (Apart.ne1 ap_A10_b16)).only hO24 (Apart.ne1 ap_A10_b16)).only hN33 (fun g h1 h2 => (symP ap2_Fp7_A10) g h1 h2)).new hN35
 obtain ⟨g36, o37, hA38⟩ := (O12.view).some_ (by first | omega | decide)
 refine Zv (.pointer (some ⟨g36, o37 + 0 * 20, none⟩)) (fun _ fr => x_indexV Try.underlying29 sz35 rfl (fr.ev rfl) hA38 rfl (by first | omega | decide) rfl) ?_
 refine Zf fo35_0 ?_
 refine Zd (v := .int .i64 1) pl33 (range_cell ((O12.view).elem hA38 0 msg0 (by first | omega | decide)) 0 rfl rfl) ?_
 refine Zv (.bool true) (fun _ fr => x_eql rfl (fr.ev rfl) rfl rfl) ?_
 refine Zpt ?_
 refine Zmm ?_
 refine Zv _ (fun _ fr => x_len Try.underlying29 rfl (fr.ev rfl)) ?_
 refine Zv (.bool true) (fun _ fr => x_eql rfl (fr.ev rfl) rfl rfl) ?_
 refine Zpt ?_
 refine Zmm ?_
 replace O30 := O30.new hN35
 obtain ⟨g39, o40, hA41⟩ := (O30.view).some_ (by first | omega | decide)
 refine Zv (.pointer (some ⟨g39, o40 + 0 * 20, none⟩)) (fun _ fr => x_indexV Try.underlying29 sz35 rfl (fr.ev rfl) hA41 rfl (by first | omega | decide) rfl) ?_
 refine Zf fo35_0 ?_
 refine Zd (v := .int .i64 13) pl33 (range_cell ((O30.view).elem hA41 0 msg0 (by first | omega | decide)) 0 rfl rfl) ?_
 refine Zv (.bool true) (fun _ fr => x_eql rfl (fr.ev rfl) rfl rfl) ?_
 refine Zpt ?_
 refine Zmm ?_
 refine Zv (.bool true) (fun _ fr => x_eql rfl (fr.ev rfl) rfl rfl) ?_
 refine Zpt ?_
 refine Zar ?_
 refine Zre rfl [_] ⟨rfl, trivial⟩ ?_
 replace hF := ((((hF.trNew hN18).loc hO22 (.inr g_b16)).loc hO24 (.inr g_b16)).locP hN33 gA_Fp7).trNew hN35
 exact ⟨_, rfl, rfl, hF⟩
end Go.Proofs.Ytflnlmibkbojcaa
namespace Go.Proofs.Ytflnlmibkbojcaa
open Go.RowKit
theorem right_c (sets ways : Int) (w : World) : Calls Try.prog 20 #[.int .i64 sets, .int .i64 ways] w (Ret fun v w' => v = .bool (rightB sets ways) ∧ New w w') := by
 have hF := Only.refl (fun _ => False) w
 refine Zen 19 Try.func20 ?_
 refine Zsr ?_
 refine Zaq ?_
 refine Zsr ?_
 refine Zan ?_
 refine Zbl ?_
 intro a fr
 refine fx_loop (fun nM a wL => ∃ k : Int, nM = (256 - k).toNat ∧ Fr (19, []) [(0, .int .i64 sets), (1, .int .i64 ways), (5, .int .i64 k)] a ∧ Only (fun _ => False) w wL ∧ (k = 1 ∨ k = 2 ∧ ¬ sets = 1 ∨ k = 4 ∧ ¬ sets = 1 ∧ ¬ sets = 2 ∨ k = 8 ∧ ¬ sets = 1 ∧ ¬ sets = 2 ∧ ¬ sets = 4 ∨ k = 16 ∧ ¬ sets = 1 ∧ ¬ sets = 2 ∧ ¬ sets = 4 ∧ ¬ sets = 8 ∨ k = 32 ∧ ¬ sets = 1 ∧ ¬ sets = 2 ∧ ¬ sets = 4 ∧ ¬ sets = 8 ∧ ¬ sets = 16 ∨ k = 64 ∧ ¬ sets = 1 ∧ ¬ sets = 2 ∧ ¬ sets = 4 ∧ ¬ sets = 8 ∧ ¬ sets = 16 ∧ ¬ sets = 32 ∨ k = 128 ∧ ¬ sets = 1 ∧ ¬ sets = 2 ∧ ¬ sets = 4 ∧ ¬ sets = 8 ∧ ¬ sets = 16 ∧ ¬ sets = 32 ∧ ¬ sets = 64)) (n0 := _) ⟨1, rfl, fr.sub ⟨rfl, rfl, rfl, trivial⟩, hF, by omega⟩ ?_
 clear fr a
 rintro n2 a w1 ⟨k, rfl, fr, hF, hk⟩
 revert a
 refine Zsq ?_
 refine Zsm ?_
 refine Zv _ (fun _ fr => x_leq rfl (fr.ev rfl) rfl rfl) ?_
 refine Znn ?_
 refine Zcd (fun hc3 => ?_) (fun hc3 => ?_)
 ·have hc3 := of_decide_eq_true hc3
  refine Zkn ?_
  refine Zsq ?_
  refine Zbl ?_
  refine Zsm ?_
  refine Zm ?_
  refine Zv _ (fun _ fr => x_eql rfl (fr.ev rfl) (fr.ev rfl) rfl) ?_
  refine Znn ?_
  refine Zcd (fun hc4 => ?_) (fun hc4 => ?_)
  ·have hc4 := of_decide_eq_true hc4
   refine Zsm ?_
   refine Zv _ (fun _ fr => x_geq rfl (fr.ev rfl) rfl rfl) ?_
   refine Zm ?_
   refine Zy (decide (1 ≤ ways)) _ (fun _ fr _ => x_move rfl (fr.ev rfl)) ?_
   refine Zy (decide (1 ≤ ways)) _ (fun _ fr hg => x_leq rfl ((fr.ev rfl).trans (onlyIf_t hg)) rfl rfl) ?_
   refine Zv (.bool ((decide (1 ≤ ways)) && (decide (ways ≤ 8)))) (fun _ fr => x_pick_and rfl (fr.ev rfl) (fun hb => ((fr.ev rfl)).trans (onlyIf_t (by simp_all))) (fun _ => rfl) rfl) ?_
   refine Zar ?_
   refine Zr21 ?_
   refine Zr1 ?_
   refine Zr21 ?_
   refine Zre rfl [_] ⟨rfl, trivial⟩ ?_
   have hp : pow2 sets = true := by simp only [pow2, Bool.or_eq_true, decide_eq_true_eq]; omega
   exact ⟨_, rfl, congrArg Value.bool (show _ = rightB sets ways from by unfold rightB; rw [hp]; rfl), hF⟩
  ·have hc4 := of_decide_eq_false hc4
   refine Zsk ?_
   refine Zbn ?_
   refine Zgm ?_
   refine Zv _ (fun _ fr => x_mul rfl (fr.ev rfl) rfl (i64w (r := k * 2) (by omega) (by omega))) ?_
   refine Za ?_
   intro a fr
   refine wpList_nil ?_
   refine fx_next ?_
   exact ⟨_, by omega, (k * 2), rfl, fr.sub ⟨rfl, rfl, rfl, trivial⟩, hF, by omega⟩
 ·have hc3 := of_decide_eq_false hc3
  refine Zex ?_
  refine Zxt ?_
  refine Zxt ?_
  refine Zxx ?_
  refine Znx ?_
  refine Zsr ?_
  refine Zar ?_
  refine Zre rfl [_] ⟨rfl, trivial⟩ ?_
  have hp : pow2 sets = false := by simp only [pow2, Bool.or_eq_false_iff, decide_eq_false_iff_not]; omega
  exact ⟨_, rfl, congrArg Value.bool (show false = rightB sets ways from by unfold rightB; rw [hp]; rfl), hF⟩
end Go.Proofs.Ytflnlmibkbojcaa
namespace Go.Proofs.Ytflnlmibkbojcaa
open Go.RowKit
section
variable {w : World} {Fp : Nat → Prop} {b bh : Nat} {s : RS}
theorem RunAt.way (H : RunAt w Fp b bh s) : ∃ W wc, w.cell? ⟨b, 2, none⟩ = some (.slice W s.way.length wc) := by
  obtain ⟨A, cap, ps, W, wc, FpC, FpH, h1, h2, h3, h4, h5, h6⟩ := H
  exact ⟨W, wc, h1.cell 2 rfl⟩
theorem RunAt.last (H : RunAt w Fp b bh s) {j : Nat} (hj : j < s.last.length) : w.cell? ⟨b, 3 + j, none⟩ = some (.int .u32 (s.last.getD j 0)) := by
  obtain ⟨A, cap, ps, W, wc, FpC, FpH, h1, h2, h3, h4, h5, h6⟩ := H
  exact h1.cell _ (run_last hj)
theorem RunAt.look (H : RunAt w Fp b bh s) {i : Nat} (hi : i < s.cs.length) : ∃ A cap g o p, w.cell? ⟨b, 0, none⟩ = some (.slice A s.cs.length cap) ∧ A = some ⟨g, o, none⟩ ∧ w.cell? ⟨g, o + i * 1, none⟩ = some (.pointer (some ⟨p, 0, none⟩)) ∧
    ∀ (addr : Int) (_ha : 0 ≤ addr ∧ addr < 4294967296) (width : Int), Calls Try.prog 17 #[.pointer (some ⟨p, 0, none⟩), .int .u32 addr, .int .i64 width] w (Ret fun v w' => v = .tuple #[.int .u32 (readF (s.cs.getD i cd0).L addr width).1, .int .i64 (readF (s.cs.getD i cd0).L addr width).2] ∧ New w w') := by
  obtain ⟨A, cap, ps, W, wc, FpC, FpH, h1, h2, h3, h4, h5, h6⟩ := H
  have hl := h3.len
  obtain ⟨g, o, hA⟩ := h2.view.some_ (by omega)
  refine ⟨A, cap, g, o, ps.getD i 0, ?_, hA, ?_, fun addr ha width => cs_read h3 hi addr ha width⟩
  · rw [← hl]; exact h1.cell 0 rfl
  · have := range_cell (h2.view.elem hA i 0 (by omega)) 0 rfl rfl
    exact this
theorem RunAt.home (H : RunAt w Fp b bh s) : Calls Try.prog 41 #[.pointer (some ⟨bh, 0, none⟩)] w (Ret fun v w' => v = .bool (idleB s.h.E) ∧ New w w') := by
  obtain ⟨A, cap, ps, W, wc, FpC, FpH, h1, h2, h3, h4, h5, h6⟩ := H
  exact idle_h h4
end
theorem run_made {F : Nat → Prop} {N : Nat} {w : World} {C A : Option Addr} {cap b bh : Nat} {ps : List Nat} {FpC FpH : Nat → Prop} {s : RS} (hw : s.way = []) (RB : Blk w b 97 (runA A ps.length cap bh none 0 0 s.last s.bad)) (OP : Own ptrE w A cap ps) (HC : CachesAt w FpC ps s.cs) (HH : HomeAt w FpH bh s.h)
    (S : RunSep (fun g => g = b ∨ inA A g ∨ inA none g ∨ FpC g ∨ FpH g) b A none FpC FpH) (gb : N ≤ b) (gA : ∀ g, inA A g → F g ∨ N ≤ g) (gC : ∀ g, FpC g → F g ∨ N ≤ g) (gH : ∀ g, FpH g → F g ∨ N ≤ g) (cb : Apart C b) (ca : Apart2 C A) (cc : ∀ k, inA C k → FpC k → False) (ch : ∀ k, inA C k → FpH k → False) :
    ∃ FpR : Nat → Prop, RunAt w FpR b bh s ∧ (∀ g, FpR g → F g ∨ N ≤ g) ∧ ∀ k, inA C k → FpR k → False := by
  refine ⟨_, ⟨A, cap, ps, none, 0, FpC, FpH, by rw [hw]; exact RB, OP, HC, HH, by rw [hw]; exact Own.nil, S⟩, fun g hg => ?_, fun k hk hg => ?_⟩
  · rcases hg with rfl | hg | hg | hg | hg
    · exact .inr gb
    · exact gA g hg
    · exact absurd hg (apart_none g)
    · exact gC g hg
    · exact gH g hg
  · rcases hg with rfl | hg | hg | hg | hg
    · exact cb hk
    · exact ca k hk hg
    · exact absurd hg (apart_none k)
    · exact cc k hk hg
    · exact ch k hk hg
def rs0 (many n : Nat) (ways : Int) : RS := ⟨cs0 many n ways, home0 (List.replicate 64 0), [], List.replicate 16 0, false⟩
theorem words0 : ∀ w, w < 16 → rdI (lineB (List.replicate 64 0) ((w / 4 : Nat) : Int)).1 (4 * (w % 4)) 4 = (List.replicate 16 (0 : Int)).getD w 0 := by decide
theorem rs0_ri {many n : Nat} {ways : Int} (hm : 1 ≤ many ∧ many ≤ 4) (hr : rightB ((n : Nat) : Int) ways = true) : RI 0 (rs0 many n ways) := by
  refine ⟨rfl, by simp [rs0], by simp [rs0, home0], fun n => lineB (List.replicate 64 0) n, SI.init hm (right_bd hr) _, words0⟩
theorem cs0_len (many n : Nat) (ways : Int) : (cs0 many n ways).length = many := by simp [cs0]
theorem cs0_snoc (i n : Nat) (ways : Int) : cs0 (i + 1) n ways = cs0 i n ways ++ [⟨i, n, ways, [], none, none⟩] := by simp [cs0, List.range_succ]
theorem dlvN_next (i : Nat) (s : RS) : dlvN (i + 1) s = actF (dlvN i s) ac3 := by
  rw [dlvN_add, act_3 rfl]
  rfl
theorem dlvN_stop {i N : Nat} {s : RS} (h : (dlvN i s).way = []) (hi : i ≤ N) : dlvN N s = dlvN i s := by
  obtain ⟨d, rfl⟩ : ∃ d, N = i + d := ⟨N - i, by omega⟩
  rw [dlvN_add, dlvN_nil h]
theorem calm_stop {i : Nat} {s : RS} (hi : i ≤ 400) (h : (decide (((i : Nat) : Int) < 400) && decide (0 < (((dlvN i s).way.length : Nat) : Int))) = false) : dlvN 400 s = dlvN i s := by
  by_cases h400 : i = 400
  · rw [h400]
  · refine dlvN_stop (List.eq_nil_of_length_eq_zero ?_) hi
    simp only [Bool.and_eq_false_iff, decide_eq_false_iff_not] at h
    omega
theorem act_len (s : RS) (a : Ac) : (actF s a).cs.length = s.cs.length := by
  unfold actF
  split
  · unfold readA
    split
    · rfl
    · exact List.length_set
  split
  · unfold writeA
    split
    · exact List.length_set
    · exact List.length_set
  split
  · exact List.length_set
  split
  · exact (dlvA_len _ _).1
  · rfl
theorem wd_acW {w : Nat} (h : w < 16) : wd (acW w h) = w := by
  show (((w : Nat) : Int) % 16).toNat = w
  omega
theorem ad_acW {w : Nat} (h : w < 16) : ad (acW w h) = ((4 * w : Nat) : Int) := by
  show 4 * (((w : Nat) : Int) % 16) = _
  omega
theorem run_turn {k : Nat} {s : RS} (r : RI k s) (hw : s.way = []) {w : Nat} (h : w < 16) {many : Nat} (hl : s.cs.length = many) :
    RI (k + 401) (dlvN 400 (actF s (acW w h))) ∧ (dlvN 400 (actF s (acW w h))).way = [] ∧ (dlvN 400 (actF s (acW w h))).cs.length = many ∧
      readF ((dlvN 400 (actF s (acW w h))).cs.getD (pickAt w many) cd0).L ((4 * w : Nat) : Int) 4 = ((dlvN 400 (actF s (acW w h))).last.getD w 0, 0) := by
  rw [act_0 (show (acW w h).kind = 0 from rfl)]
  obtain ⟨h1, h2, h3, h4⟩ := RI.turn r hw (acW w h) (Nat.le_refl 400)
  rw [wd_acW h, ad_acW h] at h4
  subst hl
  exact ⟨RI.mono h1 (by omega), h2, h3, h4⟩
end Go.Proofs.Ytflnlmibkbojcaa
namespace Go.Proofs.Ytflnlmibkbojcaa
open Go.RowKit
theorem right_t {sets ways : Int} (h : rightB sets ways = true) (w : World) : Calls Try.prog 20 #[.int .i64 sets, .int .i64 ways] w (Ret fun v w' => v = .bool true ∧ New w w') := by
  have := right_c sets ways w
  rwa [h] at this
theorem right_f {sets ways : Int} (h : rightB sets ways = false) (w : World) : Calls Try.prog 20 #[.int .i64 sets, .int .i64 ways] w (Ret fun v w' => v = .bool false ∧ New w w') := by
  have := right_c sets ways w
  rwa [h] at this
theorem calm_c {w : World} {Fp : Nat → Prop} {b bh : Nat} {s : RS} (H : RunAt w Fp b bh s) {k : Nat} (r : RI k s) (hk : k ≤ 9000)  : Calls Try.prog 39 #[.pointer (some ⟨b, 0, none⟩)] w (Ret fun v w' => v = .tuple #[] ∧ ∃ Fp', RunAt w' Fp' b bh (dlvN 400 s) ∧ Only Fp w w' ∧ ∀ g, Fp' g → Fp g ∨ w.heap.size ≤ g) := by
 have gA_Fp : ∀ g, Fp g → Fp g ∨ w.heap.size ≤ g := fun g h => .inl h
 have hF := Only.refl (Fp) w
 refine Zen 18 Try.func39 ?_
 refine Zsr ?_
 refine Zan ?_
 refine Zbl ?_
 intro a fr
 refine fx_loop (fun nM a wL => ∃ i : Nat, ∃ FpX : Nat → Prop, nM = 400 - i ∧ Fr (18, []) [(0, .pointer (some ⟨b, 0, none⟩)), (2, .int .i64 ((i : Nat) : Int))] a ∧ Only (Fp) w wL ∧ RunAt wL FpX b bh (dlvN i s) ∧ i ≤ 400 ∧ (∀ g, FpX g → (Fp) g ∨ w.heap.size ≤ g)) (n0 := _) ⟨0, Fp, rfl, fr.sub ⟨rfl, rfl, trivial⟩, hF, H, by omega, gA_Fp⟩ ?_
 clear fr a
 rintro n2 a w1 ⟨i, FpX, rfl, fr, hF, HX, hi, gA_FpX⟩
 revert a
 have hri := RI.dlvN i r
 refine Zsq ?_
 refine Zsm ?_
 refine Zv _ (fun _ fr => x_lss rfl (fr.ev rfl) rfl rfl) ?_
 refine Zm ?_
 refine Zy (decide (((i : Nat) : Int) < 400)) _ (fun _ fr _ => x_move rfl (fr.ev rfl)) ?_
 refine Zy (decide (((i : Nat) : Int) < 400)) _ (fun _ fr hg => x_nilCheck rfl ((fr.ev rfl).trans (onlyIf_t hg))) ?_
 refine Zy (decide (((i : Nat) : Int) < 400)) _ (fun _ fr hg => x_fieldAddr fo97_2 rfl ((fr.ev rfl).trans (onlyIf_t hg)) rfl) ?_
 obtain ⟨W3, wc4, hW5⟩ := HX.way
 refine Zy (decide (((i : Nat) : Int) < 400)) _ (fun _ fr hg => x_load1 pl29 rfl ((fr.ev rfl).trans (onlyIf_t hg)) hW5) ?_
 refine Zy (decide (((i : Nat) : Int) < 400)) _ (fun _ fr hg => x_len Try.underlying29 rfl ((fr.ev rfl).trans (onlyIf_t hg))) ?_
 refine Zy (decide (((i : Nat) : Int) < 400)) _ (fun _ fr hg => x_gtr rfl ((fr.ev rfl).trans (onlyIf_t hg)) rfl rfl) ?_
 refine Zv (.bool ((decide (((i : Nat) : Int) < 400)) && (decide (0 < (((dlvN i s).way.length : Nat) : Int))))) (fun _ fr => x_pick_and rfl (fr.ev rfl) (fun hb => ((fr.ev rfl)).trans (onlyIf_t (by simp_all))) (fun _ => rfl) rfl) ?_
 refine Znn ?_
 refine Zcd (fun hc6 => ?_) (fun hc6 => ?_)
 ·have hc6s := hc6
  try simp at hc6s
  refine Zkn ?_
  refine Zsq ?_
  refine Zbl ?_
  refine Zgm ?_
  refine Zv (.agg (acE.arr ac3)) (fun _ _ => x_build (cells := acE.arr ac3) rfl (by kernel_rfl)) ?_
  refine Zk (args := #[.pointer (some ⟨b, 0, none⟩), .agg (acE.arr ac3)]) cf37 (act_c HX hri (by omega) ac3) ?_
  rintro v w10 ⟨rfl, Fp7, HR8, hN11, mv9⟩
  have gA_Fp7 := gA_movedP hF mv9 gA_FpX
  clear HX
  have hr_HR8 := RI.act hri ac3
  refine Znl ?_
  refine Zbn ?_
  refine Zgm ?_
  refine Zv _ (fun _ fr => x_add rfl (fr.ev rfl) rfl (i64w (r := ((i + 1 : Nat) : Int)) (by omega) (by omega))) ?_
  refine Za ?_
  intro a fr
  refine wpList_nil ?_
  refine fx_next ?_
  replace hF := hF.locP hN11 gA_FpX
  exact ⟨_, by omega, (i + 1), Fp7, rfl, fr.sub ⟨rfl, rfl, trivial⟩, hF, (by rw [dlvN_next]; exact HR8), by omega, gA_Fp7⟩
 ·have hc6s := hc6
  try simp at hc6s
  refine Zex ?_
  refine Zxt ?_
  refine Zxt ?_
  refine Zxx ?_
  refine Zee rfl [] trivial ?_
  rw [calm_stop hi hc6]
  exact ⟨_, rfl, rfl, FpX, HX, hF, gA_FpX⟩
end Go.Proofs.Ytflnlmibkbojcaa
namespace Go.Proofs.Ytflnlmibkbojcaa
open Go.RowKit
theorem ends_lo (many sets ways : Int) {w : World} {C : Option Addr} {cc : Nat} {l : List Ac} (hL : View acE w C cc l) (h1 : many < 1) : Calls Try.prog 10 #[.int .i64 many, .agg (#[.int .i64 sets, .int .i64 ways]), .slice C l.length cc] w (Ret fun v w' => v = .bool true ∧ New w w') := by
 have hLl := hL.len
 unfold maxLen at hLl
 have hF := Only.refl (fun _ => False) w
 refine Zen 156 Try.func10 ?_
 refine Zsr ?_
 refine Znb (cs := #[.int .i64 sets, .int .i64 ways]) fun b1 w2 hN3 B4 hb5 => ?_
 refine Zaq ?_
 refine Zsm ?_
 refine Zv (.bool true) (fun _ fr => x_lss rfl (fr.ev rfl) rfl (decide_eq_true h1)) ?_
 refine Zm ?_
 refine Zss ?_
 refine Zpt ?_
 refine Zm ?_
 refine Zss ?_
 refine Zs ?_
 refine Zpt ?_
 refine Zm ?_
 refine Zss ?_
 refine Zss ?_
 refine Zss ?_
 refine Zpt ?_
 refine Znt ?_
 refine Zsr ?_
 refine Zk cf11 (known_c _) ?_
 rintro v w6 ⟨rfl, hN7⟩
 refine Zar ?_
 refine Zr1 ?_
 refine Zre rfl [_] ⟨rfl, trivial⟩ ?_
 replace hF := (hF.trNew hN3).trNew hN7
 exact ⟨_, rfl, rfl, hF⟩
theorem ends_hi (many sets ways : Int) {w : World} {C : Option Addr} {cc : Nat} {l : List Ac} (hL : View acE w C cc l) (h1 : ¬ many < 1) (h2 : 4 < many) : Calls Try.prog 10 #[.int .i64 many, .agg (#[.int .i64 sets, .int .i64 ways]), .slice C l.length cc] w (Ret fun v w' => v = .bool true ∧ New w w') := by
 have hLl := hL.len
 unfold maxLen at hLl
 have hF := Only.refl (fun _ => False) w
 refine Zen 156 Try.func10 ?_
 refine Zsr ?_
 refine Znb (cs := #[.int .i64 sets, .int .i64 ways]) fun b1 w2 hN3 B4 hb5 => ?_
 refine Zaq ?_
 refine Zsm ?_
 refine Zv (.bool false) (fun _ fr => x_lss rfl (fr.ev rfl) rfl (decide_eq_false h1)) ?_
 refine Zmm ?_
 refine Zv (.bool true) (fun _ fr => x_gtr rfl (fr.ev rfl) rfl (decide_eq_true h2)) ?_
 refine Zpf ?_
 refine Zm ?_
 refine Zss ?_
 refine Zs ?_
 refine Zpt ?_
 refine Zm ?_
 refine Zss ?_
 refine Zss ?_
 refine Zss ?_
 refine Zpt ?_
 refine Znt ?_
 refine Zsr ?_
 refine Zk cf11 (known_c _) ?_
 rintro v w6 ⟨rfl, hN7⟩
 refine Zar ?_
 refine Zr1 ?_
 refine Zre rfl [_] ⟨rfl, trivial⟩ ?_
 replace hF := (hF.trNew hN3).trNew hN7
 exact ⟨_, rfl, rfl, hF⟩
theorem ends_len (many sets ways : Int) {w : World} {C : Option Addr} {cc : Nat} {l : List Ac} (hL : View acE w C cc l) (h1 : ¬ many < 1) (h2 : ¬ 4 < many) (h3 : 100 < ((l.length : Nat) : Int)) : Calls Try.prog 10 #[.int .i64 many, .agg (#[.int .i64 sets, .int .i64 ways]), .slice C l.length cc] w (Ret fun v w' => v = .bool true ∧ New w w') := by
 have hLl := hL.len
 unfold maxLen at hLl
 have hF := Only.refl (fun _ => False) w
 refine Zen 156 Try.func10 ?_
 refine Zsr ?_
 refine Znb (cs := #[.int .i64 sets, .int .i64 ways]) fun b1 w2 hN3 B4 hb5 => ?_
 refine Zaq ?_
 refine Zsm ?_
 refine Zv (.bool false) (fun _ fr => x_lss rfl (fr.ev rfl) rfl (decide_eq_false h1)) ?_
 refine Zmm ?_
 refine Zv (.bool false) (fun _ fr => x_gtr rfl (fr.ev rfl) rfl (decide_eq_false h2)) ?_
 refine Zpf ?_
 refine Zmm ?_
 refine Zv _ (fun _ fr => x_len Try.underlying86 rfl (fr.ev rfl)) ?_
 refine Zv (.bool true) (fun _ fr => x_gtr rfl (fr.ev rfl) rfl (decide_eq_true h3)) ?_
 refine Zpf ?_
 refine Zm ?_
 refine Zss ?_
 refine Zss ?_
 refine Zss ?_
 refine Zpt ?_
 refine Znt ?_
 refine Zsr ?_
 refine Zk cf11 (known_c _) ?_
 rintro v w6 ⟨rfl, hN7⟩
 refine Zar ?_
 refine Zr1 ?_
 refine Zre rfl [_] ⟨rfl, trivial⟩ ?_
 replace hF := (hF.trNew hN3).trNew hN7
 exact ⟨_, rfl, rfl, hF⟩
theorem ends_form (many sets ways : Int) {w : World} {C : Option Addr} {cc : Nat} {l : List Ac} (hL : View acE w C cc l) (h1 : ¬ many < 1) (h2 : ¬ 4 < many) (h3 : ¬ 100 < ((l.length : Nat) : Int)) (hr : rightB sets ways = false) : Calls Try.prog 10 #[.int .i64 many, .agg (#[.int .i64 sets, .int .i64 ways]), .slice C l.length cc] w (Ret fun v w' => v = .bool true ∧ New w w') := by
 have hLl := hL.len
 unfold maxLen at hLl
 have hF := Only.refl (fun _ => False) w
 refine Zen 156 Try.func10 ?_
 refine Zsr ?_
 refine Znb (cs := #[.int .i64 sets, .int .i64 ways]) fun b1 w2 hN3 B4 hb5 => ?_
 refine Zaq ?_
 refine Zsm ?_
 refine Zv (.bool false) (fun _ fr => x_lss rfl (fr.ev rfl) rfl (decide_eq_false h1)) ?_
 refine Zmm ?_
 refine Zv (.bool false) (fun _ fr => x_gtr rfl (fr.ev rfl) rfl (decide_eq_false h2)) ?_
 refine Zpf ?_
 refine Zmm ?_
 refine Zv _ (fun _ fr => x_len Try.underlying86 rfl (fr.ev rfl)) ?_
 refine Zv (.bool false) (fun _ fr => x_gtr rfl (fr.ev rfl) rfl (decide_eq_false h3)) ?_
 refine Zpf ?_
 refine Zm ?_
 refine Zf fo55_0 ?_
 refine Zd (v := .int .i64 sets) pl3 (B4.cell 0 rfl) ?_
 refine Zf fo55_1 ?_
 refine Zd (v := .int .i64 ways) pl3 (B4.cell 1 rfl) ?_
 refine Zk cf20 (right_f hr _) ?_
 rintro v w6 ⟨rfl, hN7⟩
 refine Zv (.bool true) (fun _ fr => x_not rfl (fr.ev rfl) rfl) ?_
 refine Zpf ?_
 refine Znt ?_
 refine Zsr ?_
 refine Zk cf11 (known_c _) ?_
 rintro v w8 ⟨rfl, hN9⟩
 refine Zar ?_
 refine Zr1 ?_
 refine Zre rfl [_] ⟨rfl, trivial⟩ ?_
 replace hF := ((hF.trNew hN3).trNew hN7).trNew hN9
 exact ⟨_, rfl, rfl, hF⟩
def zv6 : Value := .agg (#[.int .i64 0, .int .i64 0, .int .i64 0, .int .u32 0, .int .u32 0])
theorem ends_yes (many n : Nat) (ways : Int) {w : World} {C : Option Addr} {cc : Nat} {l : List Ac} (hL : View acE w C cc l) (hm : 1 ≤ many ∧ many ≤ 4) (hl : l.length ≤ 100) (hr : rightB ((n : Nat) : Int) ways = true) : Calls Try.prog 10 #[.int .i64 ((many : Nat) : Int), .agg (#[.int .i64 ((n : Nat) : Int), .int .i64 ways]), .slice C l.length cc] w (Ret fun v w' => v = .bool true ∧ New w w') := by
 have hLl := hL.len
 unfold maxLen at hLl
 have h1 : ¬ ((many : Nat) : Int) < 1 := by omega
 have h2 : ¬ 4 < ((many : Nat) : Int) := by omega
 have h3 : ¬ 100 < ((l.length : Nat) : Int) := by omega
 have hF := Only.refl (fun _ => False) w
 refine Zen 156 Try.func10 ?_
 refine Zsr ?_
 refine Znb (cs := #[.int .i64 ((n : Nat) : Int), .int .i64 ways]) fun b1 w2 hN3 B4 hb5 => ?_
 refine Zaq ?_
 refine Zsm ?_
 refine Zv (.bool false) (fun _ fr => x_lss rfl (fr.ev rfl) rfl (decide_eq_false h1)) ?_
 refine Zmm ?_
 refine Zv (.bool false) (fun _ fr => x_gtr rfl (fr.ev rfl) rfl (decide_eq_false h2)) ?_
 refine Zpf ?_
 refine Zmm ?_
 refine Zv _ (fun _ fr => x_len Try.underlying86 rfl (fr.ev rfl)) ?_
 refine Zv (.bool false) (fun _ fr => x_gtr rfl (fr.ev rfl) rfl (decide_eq_false h3)) ?_
 refine Zpf ?_
 refine Zm ?_
 refine Zf fo55_0 ?_
 refine Zd (v := .int .i64 ((n : Nat) : Int)) pl3 (B4.cell 0 rfl) ?_
 refine Zf fo55_1 ?_
 refine Zd (v := .int .i64 ways) pl3 (B4.cell 1 rfl) ?_
 refine Zk cf20 (right_t hr _) ?_
 rintro v w6 ⟨rfl, hN7⟩
 refine Zv (.bool false) (fun _ fr => x_not rfl (fr.ev rfl) rfl) ?_
 refine Zpf ?_
 refine Znf ?_
 refine Zkn ?_
 refine Zsr ?_
 refine Zk (args := #[.int .i64 64]) cf35 (imgnew_c 64 _ (by decide)) ?_
 rintro v w15 ⟨bi8, ig9, cap10, rfl, hI11, hb12, hg13, hne14, hN16⟩
 refine Zm ?_
 refine Ztt ?_
 refine Za ?_
 refine Zan ?_
 refine Zsm ?_
 refine Zk cf36 (hnew_c hI11) ?_
 rintro v w21 ⟨hb17, FpH18, rfl, HH19, hf20, hN22⟩
 replace hL := ((hL.new hN3).new hN7).new hN16
 have ap2_C_FpH18 : ∀ k, inA C k → FpH18 k → False := symP (new_apart2P hf20 fun _ hg => hL.lt hg)
 replace hF := ((hF.trNew hN3).trNew hN7).trNew hN16
 have gA_FpH18 := gA_newP hF hf20
 refine Zm ?_
 refine Ztt ?_
 refine Za ?_
 refine Zan ?_
 refine Zsm ?_
 refine Zv (.agg (runA none 0 0 hb17 none 0 0 (List.replicate 16 0) false)) (fun a fr => x_build (cells := runA none 0 0 hb17 none 0 0 (List.replicate 16 0) false) rfl (by simp only [List.map_toArray, List.map_cons, List.map_nil, show a.eval (.tmp 50) = .pointer (some ⟨hb17, 0, none⟩) from fr.ev rfl]; kernel_rfl)) ?_
 refine Znb (cs := runA none 0 0 hb17 none 0 0 (List.replicate 16 0) false) fun b23 w24 hN25 B26 hb27 => ?_
 replace hL := hL.new hN22
 have ap_C_b23 := hL.apart hb27
 replace B4 := ((B4.new hN7).new hN16).new hN22
 have ne_b1_b23 := nelt B4.lt hb27
 have ap_FpH18_b23 := HH19.apart hb27
 replace hF := hF.trNew hN22
 have g_b23 := hF.sz hb27
 refine Zaq ?_
 refine Zsr ?_
 refine Zan ?_
 refine Zbl ?_
 intro a fr
 replace hL := hL.new hN25
 replace B4 := B4.new hN25
 replace HH19 := HH19.new hN25
 replace hF := hF.trNew hN25
 refine fx_loop (fun nM a wL => ∃ i : Nat, ∃ A : Option Addr, ∃ cap : Nat, ∃ ps : List Nat, ∃ FpC : Nat → Prop, nM = many - i ∧ Fr (156, []) [(0, .int .i64 ((many : Nat) : Int)), (2, .slice C l.length cc), (4, .pointer (some ⟨b1, 0, none⟩)), (6, .bool false), (9, .pointer (some ⟨hb17, 0, none⟩)), (10, .int .i64 0), (11, .pointer (some ⟨b23, 0, none⟩)), (12, .int .i64 ((i : Nat) : Int))] a ∧ Only (fun _ => False) w wL ∧ View acE wL C cc l ∧ Blk wL b1 55 (#[.int .i64 ((n : Nat) : Int), .int .i64 ways]) ∧ HomeAt wL FpH18 hb17 (home0 (List.replicate 64 0)) ∧ Blk wL b23 97 (runA A ps.length cap hb17 none 0 0 (List.replicate 16 0) false) ∧ Own ptrE wL A cap ps ∧ CachesAt wL FpC ps (cs0 i n ways) ∧ i ≤ many ∧ ps.length = i ∧ (Apart2 C A) ∧ (∀ k, inA C k → FpC k → False) ∧ (Apart A b1) ∧ (¬ FpC b1) ∧ (∀ k, FpH18 k → inA A k → False) ∧ (∀ k, FpH18 k → FpC k → False) ∧ (Apart A b23) ∧ (¬ FpC b23) ∧ (∀ k, inA A k → FpC k → False) ∧ (∀ g, inA A g → (fun _ => False) g ∨ w.heap.size ≤ g) ∧ (∀ g, FpC g → (fun _ => False) g ∨ w.heap.size ≤ g)) (n0 := _) ⟨0, none, 0, [], (fun _ => False), rfl, fr.sub ⟨rfl, rfl, rfl, rfl, rfl, rfl, rfl, rfl, trivial⟩, hF, hL, B4, HH19, B26, Own.nil, CachesAt.none _, by omega, rfl, (fun k _ h => apart_none k h), (fun k h1 hk => (fun h => h.elim) hk), (apart_none b1), (fun h => h.elim), (fun k _ h => apart_none k h), (fun k h1 hk => (fun h => h.elim) hk), (apart_none b23), (fun h => h.elim), (fun k h1 hk => (fun h => h.elim) hk), gA_none, (fun g hg => (fun h => h.elim) hg)⟩ ?_
 clear fr a
 rintro n29 a w28 ⟨i, A, cap, ps, FpC, rfl, fr, hF, hL, B4, HH19, RB, OP, HC, hi, hpl, ap2_C_A, ap2_C_FpC, ap_A_b1, ap_FpC_b1, ap2_FpH18_A, ap2_FpH18_FpC, ap_A_b23, ap_FpC_b23, ap2_A_FpC, gA_A, gA_FpC⟩
 revert a
 refine Zsq ?_
 refine Zsm ?_
 refine Zm ?_
 refine Zv _ (fun _ fr => x_lss rfl (fr.ev rfl) (fr.ev rfl) rfl) ?_
 refine Znn ?_
 refine Zcd (fun hc30 => ?_) (fun hc30 => ?_)
 ·have hc30 := of_decide_eq_true hc30
  refine Zkn ?_
  refine Zsq ?_
  refine Zbl ?_
  refine Zsm ?_
  refine Zf fo55_0 ?_
  refine Zd (v := .int .i64 ((n : Nat) : Int)) pl3 (B4.cell 0 rfl) ?_
  refine Zf fo55_1 ?_
  refine Zd (v := .int .i64 ways) pl3 (B4.cell 1 rfl) ?_
  refine Zk (args := #[.int .i64 ((i : Nat) : Int), .int .i64 ((n : Nat) : Int), .int .i64 ways]) cf12 (u_new ((i : Nat) : Int) n ways (by omega) hr _) ?_
  rintro v w35 ⟨cb31, Fp32, rfl, HD33, hf34, hN36⟩
  have ap2_C_Fp32 : ∀ k, inA C k → Fp32 k → False := symP (new_apart2P hf34 fun _ hg => hL.lt hg)
  have ap_Fp32_b1 : ¬ Fp32 b1 := new_apartP hf34 B4.lt
  have ap2_FpH18_Fp32 : ∀ k, FpH18 k → Fp32 k → False := symP (new_apart2P hf34 fun _ hg => HH19.lt hg)
  have ap_Fp32_b23 : ¬ Fp32 b23 := new_apartP hf34 RB.lt
  have ap2_A_Fp32 : ∀ k, inA A k → Fp32 k → False := symP (new_apart2P hf34 fun _ hg => OP.lt hg)
  have ap2_FpC_Fp32 : ∀ k, FpC k → Fp32 k → False := symP (new_apart2P hf34 fun _ hg => HC.lt hg)
  have gA_Fp32 := gA_newP hF hf34
  refine Zm ?_
  refine Ztt ?_
  refine Za ?_
  refine Zaq ?_
  refine Zsm ?_
  refine Zv (.bool false) (fun _ fr => x_neq rfl (fr.ev rfl) rfl rfl) ?_
  refine Zmm ?_
  refine Zv (.bool false) (fun _ fr => x_peql Try.underlying25 rfl (fr.ev rfl) rfl rfl) ?_
  refine Zpf ?_
  refine Znf ?_
  refine Zkn ?_
  refine Zgm ?_
  refine Zm ?_
  refine Zn ?_
  refine Zf fo97_0 ?_
  replace RB := RB.new hN36
  refine Zd (v := .slice A ps.length cap) pl94 (RB.cell 0 rfl) ?_
  refine Zm ?_
  intro a fr
  refine fx_build1v (E := ptrE) (p := cb31) elPtr (by decide) fr rfl rfl (by decide) rfl (fr.ev rfl) rfl ?_
  clear fr a
  intro A37 w38 hN39 O40 hA41
  intro a fr
  replace OP := (OP.new hN36).new hN39
  refine fx_append (E := ptrE) (l := ps) (l' := [cb31]) elPtr fr rfl rfl (by decide) rfl (fr.ev rfl) (fr.ev rfl) (by first | rfl | (simp; done) | (simp; omega)) (by first | rfl | (simp; done) | (simp; omega)) OP O40.view (by simp only [List.length_append, List.length_cons, List.length_nil]; omega) (by first | (unfold maxLen; done) | (unfold maxLen; first | omega | (simp only [List.length_append, List.length_cons, List.length_nil]; omega) | (simp; done) | (simp; omega))) ?_
  clear fr a
  intro A42 cap43 w44 O45 hO46 mv47
  replace hL := (hL.new hN36).new hN39
  have ap2_A42_C : Apart2 A42 C := moved_apart2 mv47 ap2_C_A.symm fun _ hg => hL.lt hg
  replace B4 := (B4.new hN36).new hN39
  have ap_A42_b1 : Apart A42 b1 := moved_apart mv47 ap_A_b1 B4.lt
  replace HH19 := (HH19.new hN36).new hN39
  have ap2_A42_FpH18 : ∀ k, inA A42 k → FpH18 k → False := moved_apart2P mv47 (symP ap2_FpH18_A) fun _ hg => HH19.lt hg
  replace RB := RB.new hN39
  have ap_A42_b23 : Apart A42 b23 := moved_apart mv47 ap_A_b23 RB.lt
  replace HC := (HC.new hN36).new hN39
  have ap2_A42_FpC : ∀ k, inA A42 k → FpC k → False := moved_apart2P mv47 ap2_A_FpC fun _ hg => HC.lt hg
  replace HD33 := HD33.new hN39
  have ap2_A42_Fp32 : ∀ k, inA A42 k → Fp32 k → False := moved_apart2P mv47 ap2_A_Fp32 fun _ hg => HD33.lt hg
  replace hF := (hF.trNew hN36).trNew hN39
  have gA_A42 := gA_moved hF mv47 gA_A
  clear OP
  refine Zn ?_
  refine Zf fo97_0 ?_
  replace RB := RB.only hO46 ap_A_b23
  refine Zs1 (cs' := runA A42 ((ps ++ ([cb31])).length) cap43 hb17 none 0 0 (List.replicate 16 0) false) sz94 RB (by rw [run_size, (List.length_replicate)]; decide) run_setC fun w48 hO49 RB => ?_
  refine Znl ?_
  refine Zbn ?_
  refine Zgm ?_
  refine Zv _ (fun _ fr => x_add rfl (fr.ev rfl) rfl (i64w (r := ((i + 1 : Nat) : Int)) (by omega) (by omega))) ?_
  refine Za ?_
  intro a fr
  refine wpList_nil ?_
  refine fx_next ?_
  replace hL := (hL.only hO46 (fun g h1 h2 => ap2_C_A g h1 h2)).only hO49 (Apart.ne1 ap_C_b23)
  replace B4 := (B4.only hO46 ap_A_b1).only hO49 ne_b1_b23
  replace HH19 := (HH19.only hO46 (fun g h1 h2 => ap2_FpH18_A g h1 h2)).only hO49 (ne1P ap_FpH18_b23)
  replace HC := (HC.only hO46 (fun g h1 h2 => (symP ap2_A_FpC) g h1 h2)).only hO49 (ne1P ap_FpC_b23)
  replace HD33 := (HD33.only hO46 (fun g h1 h2 => (symP ap2_A_Fp32) g h1 h2)).only hO49 (ne1P ap_Fp32_b23)
  replace hF := (hF.locA hO46 gA_A).loc hO49 (.inr g_b23)
  replace O45 := O45.only hO49 (Apart.ne1 ap_A42_b23)
  exact ⟨_, by omega, (i + 1), A42, cap43, (ps ++ ([cb31])), (fun k => FpC k ∨ Fp32 k), rfl, fr.sub ⟨rfl, rfl, rfl, rfl, rfl, rfl, rfl, rfl, trivial⟩, hF, hL, B4, HH19, RB, O45, (by rw [cs0_snoc]; exact HC.snoc HD33 ap2_FpC_Fp32), by omega, (by rw [List.length_append]; show _ + 1 = _; omega), ap2_A42_C.symm, (fun k h1 hk => (fun h => h.elim (ap2_C_FpC k h1) (ap2_C_Fp32 k h1)) hk), ap_A42_b1, (fun h => h.elim ap_FpC_b1 ap_Fp32_b1), (symP ap2_A42_FpH18), (fun k h1 hk => (fun h => h.elim (ap2_FpH18_FpC k h1) (ap2_FpH18_Fp32 k h1)) hk), ap_A42_b23, (fun h => h.elim ap_FpC_b23 ap_Fp32_b23), (fun k h1 hk => (fun h => h.elim (ap2_A42_FpC k h1) (ap2_A42_Fp32 k h1)) hk), gA_A42, (fun g hg => (fun h => h.elim (gA_FpC g) (gA_Fp32 g)) hg)⟩
 ·have hc30 := of_decide_eq_false hc30
  refine Zex ?_
  refine Zxt ?_
  refine Zxt ?_
  refine Zxx ?_
  refine Znx ?_
  refine Zsq ?_
  refine Zsq ?_
  obtain rfl : i = many := by omega
  obtain ⟨FpR, HR, gA_FpR, ap2_C_FpR⟩ := run_made (s := rs0 i n ways) rfl RB OP HC HH19 ⟨ap_A_b23, (apart_none b23), ap_FpC_b23, ap_FpH18_b23, (fun k _ h => apart_none k h), ap2_A_FpC, (symP ap2_FpH18_A), (fun k h _ => apart_none k h), (fun k h _ => apart_none k h), (symP ap2_FpH18_FpC), fun _ => Iff.rfl⟩ g_b23 gA_A gA_FpC gA_FpH18 ap_C_b23 ap2_C_A ap2_C_FpC ap2_C_FpH18
  have hr0 := rs0_ri hm hr
  refine Zrg ?_
  refine Zan ?_
  refine Zbl ?_
  intro a fr
  refine fx_loop (fun nM a wL => ∃ j : Nat, ∃ sX : RS, ∃ FpX : Nat → Prop, nM = l.length - j ∧ Fr (156, []) [(0, .int .i64 ((i : Nat) : Int)), (2, .slice C l.length cc), (6, .bool false), (9, .pointer (some ⟨hb17, 0, none⟩)), (11, .pointer (some ⟨b23, 0, none⟩)), (15, .int .i64 ((j : Nat) : Int))] a ∧ Only (fun _ => False) w wL ∧ View acE wL C cc l ∧ RunAt wL FpX b23 hb17 sX ∧ j ≤ l.length ∧ RI j sX ∧ sX.cs.length = i ∧ (∀ k, inA C k → FpX k → False) ∧ (∀ g, FpX g → (fun _ => False) g ∨ w.heap.size ≤ g)) (n0 := _) ⟨0, (rs0 i n ways), FpR, rfl, fr.sub ⟨rfl, rfl, rfl, rfl, rfl, rfl, trivial⟩, hF, hL, HR, by omega, hr0, cs0_len _ _ _, ap2_C_FpR, gA_FpR⟩ ?_
  clear fr a
  rintro n51 a w50 ⟨j, sX, FpX, rfl, fr, hF, hL, HX, hj, hri, hlen, ap2_C_FpX, gA_FpX⟩
  revert a
  refine Zsq ?_
  refine Zsm ?_
  refine Zm ?_
  refine Zv _ (fun _ fr => x_len Try.underlying86 rfl (fr.ev rfl)) ?_
  refine Zv _ (fun _ fr => x_lss rfl (fr.ev rfl) (fr.ev rfl) rfl) ?_
  refine Znn ?_
  refine Zcd (fun hc52 => ?_) (fun hc52 => ?_)
  ·have hc52 := of_decide_eq_true hc52
   refine Zkn ?_
   refine Zsq ?_
   refine Zbl ?_
   refine Zgm ?_
   refine Zmm ?_
   obtain ⟨g53, o54, hA55⟩ := (hL).some_ (by first | omega | decide)
   refine Zv (.pointer (some ⟨g53, o54 + j * 5, none⟩)) (fun _ fr => x_indexV Try.underlying86 sz100 rfl (fr.ev rfl) hA55 (fr.ev rfl) (by first | omega | decide) rfl) ?_
   refine ZE acE ag100 ((hL).elem hA55 j ac0 (by omega)) ?_
   refine Zk (args := #[.pointer (some ⟨b23, 0, none⟩), .agg (acE.arr (l.getD j ac0))]) cf37 (act_c HX hri (by omega) (l.getD j ac0)) ?_
   rintro v w59 ⟨rfl, Fp56, HR57, hN60, mv58⟩
   have ap2_Fp56_C : ∀ k, Fp56 k → inA C k → False := moved_apart2P mv58 (symP ap2_C_FpX) fun _ hg => hL.lt hg
   have gA_Fp56 := gA_movedP hF mv58 gA_FpX
   clear HX
   have hr_HR57 := RI.act hri (l.getD j ac0)
   refine Znl ?_
   refine Zbn ?_
   refine Zgm ?_
   refine Zv _ (fun _ fr => x_add rfl (fr.ev rfl) rfl (i64w (r := ((j + 1 : Nat) : Int)) (by omega) (by omega))) ?_
   refine Za ?_
   intro a fr
   refine wpList_nil ?_
   refine fx_next ?_
   replace hL := hL.only hN60 (fun g h1 h2 => ap2_C_FpX g h1 h2)
   replace hF := hF.locP hN60 gA_FpX
   exact ⟨_, by omega, (j + 1), (actF sX (l.getD j ac0)), Fp56, rfl, fr.sub ⟨rfl, rfl, rfl, rfl, rfl, rfl, trivial⟩, hF, hL, HR57, by omega, hr_HR57, (by rw [act_len]; exact hlen), (symP ap2_Fp56_C), gA_Fp56⟩
  ·have hc52 := of_decide_eq_false hc52
   refine Zex ?_
   refine Zxt ?_
   refine Zxt ?_
   refine Zxx ?_
   refine Znx ?_
   refine Zsm ?_
   refine Zk (args := #[.pointer (some ⟨b23, 0, none⟩)]) cf39 (calm_c HX hri (by omega)) ?_
   rintro v w64 ⟨rfl, Fp61, HR62, hN65, mv63⟩
   have gA_Fp61 := gA_movedP hF mv63 gA_FpX
   clear HX
   have hr_HR62 := RI.dlvN 400 hri
   refine Znq ?_
   refine Zsr ?_
   refine Zan ?_
   refine Zbl ?_
   intro a fr
   replace hF := hF.locP hN65 gA_FpX
   refine fx_loop (fun nM a wL => ∃ q : Nat, ∃ sY : RS, ∃ FpY : Nat → Prop, nM = 16 - q ∧ Fr (156, []) [(0, .int .i64 ((i : Nat) : Int)), (6, .bool false), (9, .pointer (some ⟨hb17, 0, none⟩)), (11, .pointer (some ⟨b23, 0, none⟩)), (16, .int .i64 ((q : Nat) : Int))] a ∧ Only (fun _ => False) w wL ∧ RunAt wL FpY b23 hb17 sY ∧ q ≤ 16 ∧ RI (500 + 401 * q) sY ∧ sY.way = [] ∧ sY.cs.length = i ∧ (∀ g, FpY g → (fun _ => False) g ∨ w.heap.size ≤ g)) (n0 := _) ⟨0, (dlvN 400 sX), Fp61, rfl, fr.sub ⟨rfl, rfl, rfl, rfl, rfl, trivial⟩, hF, HR62, by omega, (RI.mono hr_HR62 (by omega)), (RI.calm 400 hri hri.bound), ((dlvN_len _ _).1.trans hlen), gA_Fp61⟩ ?_
   clear fr a
   rintro n67 a w66 ⟨q, sY, FpY, rfl, fr, hF, HY, hq, hriY, hwayY, hlenY, gA_FpY⟩
   revert a
   refine Zsq ?_
   refine Zsm ?_
   refine Zv _ (fun _ fr => x_lss rfl (fr.ev rfl) rfl rfl) ?_
   refine Znn ?_
   refine Zcd (fun hc68 => ?_) (fun hc68 => ?_)
   ·have hc68 := of_decide_eq_true hc68
    refine Zkn ?_
    refine Zsq ?_
    refine Zbl ?_
    refine Zsq ?_
    have hq16 : q < 16 := by omega
    refine Zgm ?_
    refine Zm ?_
    refine Zv _ (fun _ fr => x_convert Try.underlying3 Try.underlying32 rfl (fr.ev rfl) (u32w (r := ((q : Nat) : Int)) rfl (by omega))) ?_
    refine Zv (.agg (acE.arr (acW q hq16))) (fun a fr => x_build (cells := acE.arr (acW q hq16)) rfl (by simp only [List.map_toArray, List.map_cons, List.map_nil, show a.eval (.tmp 101) = .int .i64 ((q : Nat) : Int) from fr.ev rfl, show a.eval (.tmp 103) = .int .u32 ((q : Nat) : Int) from fr.ev rfl]; kernel_rfl)) ?_
    refine Zna (z := zv6) (cs := acE.arr ac0) (by kernel_rfl) fun b69 w70 hN71 B72 hb73 => ?_
    have ap_FpY_b69 := HY.apart hb73
    have g_b69 := hF.sz hb73
    refine ZsS sz100 (acE.all _) B72 (acE.size _) (acE.size _) fun w74 hO75 B72 => ?_
    refine Znn ?_
    refine Zsm ?_
    refine ZE acE ag100 (B72.rangeE acE) ?_
    replace HY := (HY.new hN71).only hO75 (ne1P ap_FpY_b69)
    refine Zk (args := #[.pointer (some ⟨b23, 0, none⟩), .agg (acE.arr (acW q hq16))]) cf37 (act_c HY hriY (by omega) (acW q hq16)) ?_
    rintro v w79 ⟨rfl, Fp76, HR77, hN80, mv78⟩
    replace hF := (hF.trNew hN71).loc hO75 (.inr g_b69)
    have gA_Fp76 := gA_movedP hF mv78 gA_FpY
    clear HY
    have hr_HR77 := RI.act hriY (acW q hq16)
    refine Znn ?_
    refine Zsm ?_
    refine Zk (args := #[.pointer (some ⟨b23, 0, none⟩)]) cf39 (calm_c HR77 hr_HR77 (by omega)) ?_
    rintro v w84 ⟨rfl, Fp81, HR82, hN85, mv83⟩
    replace hF := hF.locP hN80 gA_FpY
    have gA_Fp81 := gA_movedP hF mv83 gA_Fp76
    clear HR77
    have hr_HR82 := RI.dlvN 400 hr_HR77
    refine Znq ?_
    have htn := run_turn hriY hwayY hq16 hlenY
    refine Zgm ?_
    refine Zm ?_
    refine Zk (args := #[.int .i64 ((q : Nat) : Int), .int .i64 ((i : Nat) : Int)]) cf40 (mod_c ((q : Nat) : Int) i (by omega) (by omega) _) ?_
    rintro v w9 ⟨rfl, hw9⟩
    obtain rfl := hw9.symm
    refine Zan ?_
    refine Zsm ?_
    refine Zn ?_
    refine Zf fo97_0 ?_
    obtain ⟨A88, cap89, g90, o91, p92, hq93, hq94, hq95, hq96⟩ := HR82.look (i := pickAt ((q : Nat) : Int) i) (by rw [htn.2.2.1]; exact pickAt_lt _ _ (by omega))
    refine Zd (v := .slice A88 ((dlvN 400 (actF sY (acW q hq16))).cs.length) cap89) pl94 hq93 ?_
    refine Zm ?_
    refine Zv (.pointer (some ⟨g90, o91 + (pickAt ((q : Nat) : Int) i) * 1, none⟩)) (fun _ fr => x_indexV Try.underlying94 sz25 rfl (fr.ev rfl) hq94 (fr.ev rfl) (by rw [htn.2.2.1]; exact pickAt_lt _ _ (by omega)) rfl) ?_
    refine Zd pl25 hq95 ?_
    refine Zm ?_
    refine Zv _ (fun _ fr => x_mul rfl rfl (fr.ev rfl) (i64w (r := ((4 * q : Nat) : Int)) (by omega) (by omega))) ?_
    refine Zv _ (fun _ fr => x_convert Try.underlying3 Try.underlying32 rfl (fr.ev rfl) (u32w (r := ((4 * q : Nat) : Int)) rfl (by omega))) ?_
    refine Zk (args := #[.pointer (some ⟨p92, 0, none⟩), .int .u32 ((4 * q : Nat) : Int), .int .i64 4]) cf17 (hq96 ((4 * q : Nat) : Int) (by omega) 4) ?_
    rintro v w97 ⟨rfl, hN98⟩
    refine Zm ?_
    refine Ztt ?_
    refine Za ?_
    refine Zaq ?_
    have hrd2 : (readF ((dlvN 400 (actF sY (acW q hq16))).cs.getD (pickAt ((q : Nat) : Int) i) cd0).L ((4 * q : Nat) : Int) 4).2 = 0 := by rw [htn.2.2.2]
    have hrd1 : (readF ((dlvN 400 (actF sY (acW q hq16))).cs.getD (pickAt ((q : Nat) : Int) i) cd0).L ((4 * q : Nat) : Int) 4).1 = (dlvN 400 (actF sY (acW q hq16))).last.getD q 0 := by rw [htn.2.2.2]
    refine Zgm ?_
    refine Zv (.bool false) (fun _ fr => x_neq rfl (fr.ev rfl) rfl (decide_eq_false (by omega))) ?_
    refine Zmm ?_
    refine Zmm ?_
    refine Zn ?_
    refine Zf fo97_3 ?_
    refine Zv (.pointer (some ⟨b23, 3 + q, none⟩)) (fun _ fr => x_indexArr Try.underlying95 sz16 rfl (fr.ev rfl) (fr.ev rfl) (by omega) (by omega)) ?_
    replace HR82 := HR82.new hN98
    refine Zd (v := .int .u32 ((dlvN 400 (actF sY (acW q hq16))).last.getD q 0)) pl32 (HR82.last (by rw [(hr_HR82).len]; omega)) ?_
    refine Zv (.bool false) (fun _ fr => x_neq rfl (fr.ev rfl) (fr.ev rfl) (by first | (exact decide_eq_false (fun hn => hn hrd1)) | simp [hrd1])) ?_
    refine Zpf ?_
    refine Znf ?_
    refine Zsk ?_
    refine Zbn ?_
    refine Zgm ?_
    refine Zv _ (fun _ fr => x_add rfl (fr.ev rfl) rfl (i64w (r := ((q + 1 : Nat) : Int)) (by omega) (by omega))) ?_
    refine Za ?_
    intro a fr
    refine wpList_nil ?_
    refine fx_next ?_
    replace hF := (hF.locP hN85 gA_Fp76).trNew hN98
    exact ⟨_, by omega, (q + 1), (dlvN 400 (actF sY (acW q hq16))), Fp81, rfl, fr.sub ⟨rfl, rfl, rfl, rfl, rfl, trivial⟩, hF, HR82, by omega, (RI.mono htn.1 (by omega)), htn.2.1, htn.2.2.1, gA_Fp81⟩
   ·have hc68 := of_decide_eq_false hc68
    refine Zex ?_
    refine Zxt ?_
    refine Zxt ?_
    refine Zxx ?_
    refine Znx ?_
    refine Zsq ?_
    have hw0 : ((sY.way.length : Nat) : Int) = 0 := by rw [hwayY]; rfl
    refine Zgm ?_
    refine Zn ?_
    refine Zf fo97_2 ?_
    obtain ⟨W99, wc100, hW101⟩ := HY.way
    refine Zd (v := .slice W99 sY.way.length wc100) pl29 hW101 ?_
    refine Zv _ (fun _ fr => x_len Try.underlying29 rfl (fr.ev rfl)) ?_
    refine Zv (.bool true) (fun _ fr => x_eql rfl (fr.ev rfl) rfl (decide_eq_true (by omega))) ?_
    refine Zmm ?_
    refine Zk cf41 (HY.home) ?_
    rintro v w102 ⟨rfl, hN103⟩
    intro a fr
    rw [RI.idle hriY hwayY] at fr
    revert a
    refine Zpt ?_
    refine Zmm ?_
    replace HY := HY.new hN103
    refine Zk cf38 (rright_c HY hriY) ?_
    rintro v w104 ⟨rfl, hN105⟩
    refine Zpt ?_
    refine Zm ?_
    refine Zk cf11 (known_c _) ?_
    rintro v w106 ⟨rfl, hN107⟩
    refine Zpt ?_
    refine Zar ?_
    refine Zre rfl [_] ⟨rfl, trivial⟩ ?_
    replace hF := ((hF.trNew hN103).trNew hN105).trNew hN107
    exact ⟨_, rfl, rfl, hF⟩
theorem ends_all (many sets ways : Int) {w : World} {C : Option Addr} {cc : Nat} {l : List Ac} (hL : View acE w C cc l) : Calls Try.prog 10 #[.int .i64 many, .agg #[.int .i64 sets, .int .i64 ways], .slice C l.length cc] w (Ret fun v w' => v = .bool true ∧ New w w') := by
  by_cases h1 : many < 1
  · exact ends_lo many sets ways hL h1
  by_cases h2 : 4 < many
  · exact ends_hi many sets ways hL h1 h2
  by_cases h3 : 100 < ((l.length : Nat) : Int)
  · exact ends_len many sets ways hL h1 h2 h3
  cases hr : rightB sets ways with
  | false => exact ends_form many sets ways hL h1 h2 h3 hr
  | true =>
    have hy := right_yes hr
    obtain ⟨m, rfl⟩ : ∃ m : Nat, many = (m : Int) := ⟨many.toNat, by omega⟩
    obtain ⟨n, rfl⟩ : ∃ n : Nat, sets = (n : Int) := ⟨sets.toNat, by omega⟩
    exact ends_yes m n ways hL (by omega) (by omega) hr
end Go.Proofs.Ytflnlmibkbojcaa
namespace Go.Proofs.Ytflnlmibkbojcaa
open Go.RowKit Go.ChangeShapes Go.WideShapes Go.ChangeAt Go.Deep
section
variable {H : Type} {enc : TypeId × Value → H} {P : Program} {w : World} {base : Nat} {spare : Nat → Bool} {held : Bool} {fuel : Nat} {cs : List Value} {x : DataW H × List MemPlace}
theorem piece {q n : Nat} {a b : List Value} (h1 : (cs.drop q).take n = a) (h2 : cs.drop (q + n) = b) : cs.drop q = a ++ b := by
  rw [← h1, ← h2, ← List.drop_drop, List.take_append_drop]
theorem has_addr {r : Reach} {a : Addr} {e n : Nat} (h : w.has P r base a e n) : ∃ g o, a = ⟨g, o, none⟩ ∧ g < w.heap.size := by
  obtain ⟨_, h1, row, cells, h2, _⟩ := h
  obtain ⟨g, o, s⟩ := a
  subst h1
  refine ⟨g, o, rfl, ?_⟩
  unfold World.shape? at h2
  rcases Nat.lt_or_ge g w.heap.size with h | h
  · exact h
  · have : w.heap[g]? = none := Array.getElem?_eq_none h
    simp [this] at h2
theorem add_none (g o i : Nat) : (⟨g, o, none⟩ : Addr).add i = ⟨g, o + i, none⟩ := by
  unfold Addr.add
  by_cases h : i = 0 <;> simp [h]
theorem open_recs {α : Type} [DecidableEq α] {E : Enc P α} {OK : α → Prop} {t : TypeId} {r : Reach} {b0 : Nat} {v : Value} {d : DataW H} {p : List MemPlace} (ht : P.underlying t = some (.slice E.T)) (hC : P.cellsOf E.T = E.n)
    (hel : ∀ fuel cs x, DataW.trod enc P w base (fun _ => true) held fuel E.T cs = some x → ∃ m, OK m ∧ cs = E.cells m) (hv : Value.okWide P w r b0 t v) (h : DataW.Trod enc P w base (fun _ => true) held t v d p) :
    ∃ A cap l, v = .slice A l.length cap ∧ View E w A cap l ∧ ∀ m ∈ l, OK m := by
  obtain ⟨a0, len, cap, rfl⟩ := okWide_slice ht hv
  obtain ⟨fuel, hf⟩ := h
  rcases open_slice ht hf with ⟨hcs, _⟩ | ⟨a, l, c, m, n, D, Pl, hcs, _, hl, hm, hz, _, hcell⟩
  · simp [Value.cells] at hcs
    obtain ⟨rfl, rfl, rfl⟩ := hcs
    exact ⟨none, 0, [], rfl, View.nil, by simp⟩
  · simp [Value.cells] at hcs
    obtain ⟨rfl, rfl, rfl⟩ := hcs
    rw [if_pos rfl] at hz
    subst hz
    have hh : w.has P r b0 a E.T m := by
      unfold Value.okWide at hv
      rw [ht] at hv
      simp only [Cell.okWide, ht, Cell.ok] at hv
      exact hv.2.2
    obtain ⟨g, o, rfl, hg⟩ := has_addr hh
    rw [hC] at hcell
    have hb : ∀ i : Fin len, ∃ q : α, OK q ∧ w.rangeAt g (o + i.1 * E.n) (E.cells q) := by
      intro i
      obtain ⟨cs', h1, h2⟩ := hcell i.1 (by omega)
      obtain ⟨q, hq, rfl⟩ := hel _ _ _ h2
      obtain ⟨_, hcl, hat⟩ := World.cells?_some h1
      refine ⟨q, hq, fun j v hj => ?_⟩
      have hjl := (List.getElem?_eq_some_iff.1 hj).1
      have := hat j (by omega)
      rw [add_none, add_none] at this
      rw [this, hj]
    obtain ⟨f, hf⟩ : ∃ f : Fin len → α, ∀ i, OK (f i) ∧ w.rangeAt g (o + i.1 * E.n) (E.cells (f i)) := ⟨fun i => (hb i).choose, fun i => (hb i).choose_spec⟩
    refine ⟨some ⟨g, o, none⟩, m, List.ofFn f, by simp, ⟨by simp; omega, hm, .inr ⟨g, o, rfl, hg, fun j v hj => ?_⟩⟩, ?_⟩
    · have hjl := (List.getElem?_eq_some_iff.1 hj).1
      rw [flat_len, List.length_ofFn] at hjl
      have hn := E.pos
      have hq : j / E.n < len := (Nat.div_lt_iff_lt_mul hn).2 hjl
      have hr : j % E.n < E.n := Nat.mod_lt _ hn
      have hj2 : j / E.n * E.n + j % E.n = j := by rw [Nat.mul_comm]; exact Nat.div_add_mod j E.n
      have e1 := flat_drop (E := E) (List.ofFn f) (j / E.n) (by simpa using hq)
      have e2 : (E.cells (f ⟨j / E.n, hq⟩))[j % E.n]? = some v := by
        rw [List.getElem_ofFn] at e1
        rw [← e1, List.getElem?_take, if_pos hr, List.getElem?_drop, hj2]
        exact hj
      have := (hf ⟨j / E.n, hq⟩).2 (j % E.n) v e2
      rw [← this]
      show _ = w.cell? ⟨g, o + j / E.n * E.n + j % E.n, none⟩
      rw [Nat.add_assoc, hj2]
    · intro q hq
      obtain ⟨i, rfl⟩ := List.mem_ofFn.1 hq
      exact (hf i).1
theorem open_rec {α : Type} [DecidableEq α] {E : Enc P α} {OK : α → Prop} {fs : Array Field} {r : Reach} {b0 : Nat} {v : Value} {d : DataW H} {p : List MemPlace} (ht : P.underlying E.T = some (.struct fs))
    (hel : ∀ fuel cs x, DataW.trod enc P w base (fun _ => true) held fuel E.T cs = some x → ∃ m, OK m ∧ cs = E.cells m) (hv : Value.okWide P w r b0 E.T v) (h : DataW.Trod enc P w base (fun _ => true) held E.T v d p) :
    ∃ m, OK m ∧ v = .agg (E.arr m) := by
  obtain ⟨cs, rfl, hsz⟩ := okWide_struct ht hv
  obtain ⟨fuel, hf⟩ := h
  obtain ⟨m, hm, hc⟩ := hel _ _ _ hf
  refine ⟨m, hm, congrArg Value.agg ?_⟩
  have : cs.toList = E.cells m := hc
  apply Array.toList_inj.1
  rw [this, E.toList]
end
end Go.Proofs.Ytflnlmibkbojcaa
namespace Go.Proofs.Ytflnlmibkbojcaa
open Go.RowKit Go.ChangeShapes Go.WideShapes Go.ChangeAt
section
variable {H : Type} {enc : TypeId × Value → H} {w : World} {base : Nat} {spare : Nat → Bool} {held : Bool} {fuel : Nat} {cs : List Value} {x : DataW H × List MemPlace}
theorem cellsFORM : Try.prog.cellsOf 55 = 2 := by kernel_rfl
theorem cellsU32 : Try.prog.cellsOf 32 = 1 := by kernel_rfl
theorem cellsI64 : Try.prog.cellsOf 3 = 1 := by kernel_rfl
theorem wf_u32 {a : Int} (h : (Lit.int .u32 a).wf = true) : 0 ≤ a ∧ a < 4294967296 := by
  simp [Lit.wf, IntKind.min, IntKind.max, IntKind.signed, IntKind.bits] at h
  omega
structure Frm where
  sets : Int
  ways : Int
  deriving DecidableEq
def Frm.cells (q : Frm) : List Value := [.int .i64 q.sets, .int .i64 q.ways]
def frmE : Enc Try.prog Frm where
  T := 55
  n := 2
  cells := Frm.cells
  len := fun q => rfl
  one := fun q v hv => by
    simp only [Frm.cells, List.mem_cons, List.mem_nil_iff, or_false] at hv
    rcases hv with rfl | rfl <;> rfl
  pos := by decide
theorem trod_frm (h : DataW.trod enc Try.prog w base spare held fuel 55 cs = some x) : ∃ m : Frm, True ∧ cs = m.cells := by
  obtain ⟨xs, n, _, _, hl, hlen, hg⟩ := DataW.trod_struct Try.underlying55 h
  rw [cellsFORM] at hl
  match xs, hlen with
  | [y0, y1], _ =>
    have h0 : DataW.trod enc Try.prog w base spare held n 3 ((cs.drop 0).take (Try.prog.cellsOf 3)) = some y0 := hg 0 _ rfl
    rw [cellsI64] at h0
    have h1 : DataW.trod enc Try.prog w base spare held n 3 ((cs.drop 1).take (Try.prog.cellsOf 3)) = some y1 := hg 1 _ rfl
    rw [cellsI64] at h1
    obtain ⟨a0, e0, _⟩ := DataW.trod_int Try.underlying3 h0
    obtain ⟨a1, e1, _⟩ := DataW.trod_int Try.underlying3 h1
    refine ⟨⟨a0, a1⟩, trivial, ?_⟩
    have p2 : cs.drop 2 = [] := List.drop_eq_nil_of_le (by omega)
    have p1 := piece e1 p2
    have p0 := piece e0 p1
    rw [List.drop_zero] at p0
    rw [p0]
    simp [Frm.cells]
theorem open_frm {r : Reach} {b0 : Nat} {v : Value} {d : DataW H} {p : List MemPlace} (hv : Value.okWide Try.prog w r b0 55 v) (h : DataW.Trod enc Try.prog w base (fun _ => true) held 55 v d p) : ∃ m : Frm, True ∧ v = .agg (frmE.arr m) :=
  open_rec (E := frmE) (OK := fun _ => True) Try.underlying55 (fun _ _ _ => trod_frm) hv h
theorem cellsAC : Try.prog.cellsOf 100 = 5 := by kernel_rfl
theorem trod_ac (h : DataW.trod enc Try.prog w base spare held fuel 100 cs = some x) : ∃ m : Ac, True ∧ cs = m.cells := by
  obtain ⟨xs, n, _, _, hl, hlen, hg⟩ := DataW.trod_struct Try.underlying100 h
  rw [cellsAC] at hl
  match xs, hlen with
  | [y0, y1, y2, y3, y4], _ =>
    have h0 : DataW.trod enc Try.prog w base spare held n 3 ((cs.drop 0).take (Try.prog.cellsOf 3)) = some y0 := hg 0 _ rfl
    rw [cellsI64] at h0
    have h1 : DataW.trod enc Try.prog w base spare held n 3 ((cs.drop 1).take (Try.prog.cellsOf 3)) = some y1 := hg 1 _ rfl
    rw [cellsI64] at h1
    have h2 : DataW.trod enc Try.prog w base spare held n 3 ((cs.drop 2).take (Try.prog.cellsOf 3)) = some y2 := hg 2 _ rfl
    rw [cellsI64] at h2
    have h3 : DataW.trod enc Try.prog w base spare held n 32 ((cs.drop 3).take (Try.prog.cellsOf 32)) = some y3 := hg 3 _ rfl
    rw [cellsU32] at h3
    have h4 : DataW.trod enc Try.prog w base spare held n 32 ((cs.drop 4).take (Try.prog.cellsOf 32)) = some y4 := hg 4 _ rfl
    rw [cellsU32] at h4
    obtain ⟨a0, e0, _⟩ := DataW.trod_int Try.underlying3 h0
    obtain ⟨a1, e1, _⟩ := DataW.trod_int Try.underlying3 h1
    obtain ⟨a2, e2, _⟩ := DataW.trod_int Try.underlying3 h2
    obtain ⟨a3, e3, _, w3⟩ := DataW.trod_int Try.underlying32 h3
    obtain ⟨a4, e4, _, w4⟩ := DataW.trod_int Try.underlying32 h4
    refine ⟨⟨a0, a1, a2, a3, a4, wf_u32 w3, wf_u32 w4⟩, trivial, ?_⟩
    have p5 : cs.drop 5 = [] := List.drop_eq_nil_of_le (by omega)
    have p4 := piece e4 p5
    have p3 := piece e3 p4
    have p2 := piece e2 p3
    have p1 := piece e1 p2
    have p0 := piece e0 p1
    rw [List.drop_zero] at p0
    rw [p0]
    simp [Ac.cells]
def AcsArg (w : World) (v : Value) : Prop := ∃ A cap l, v = .slice A l.length cap ∧ View acE w A cap l
theorem open_acs {r : Reach} {b0 : Nat} {v : Value} {d : DataW H} {p : List MemPlace} (hv : Value.okWide Try.prog w r b0 86 v) (h : DataW.Trod enc Try.prog w base (fun _ => true) held 86 v d p) : AcsArg w v := by
  obtain ⟨A, cap, l, h1, h2, _⟩ := open_recs (E := acE) (OK := fun _ => True) Try.underlying86 cellsAC (fun _ _ _ => trod_ac) hv h
  exact ⟨A, cap, l, h1, h2⟩
end
end Go.Proofs.Ytflnlmibkbojcaa
namespace Go.Proofs.Ytflnlmibkbojcaa
open Go.RowKit
set_option linter.unusedVariables false
theorem walk_CacheEnds (w : World) (a0 : Int) (h0 : (Lit.int .i64 a0).wf = true) (v1 : Value) (hv1 : ∃ m : Frm, True ∧ v1 = .agg (frmE.arr m)) (v2 : Value) (hv2 : AcsArg w v2) : Calls Try.prog 10 #[.int .i64 a0, v1, v2] w fun e w' => e = .returned (.bool true) ∧ Below w.heap.size w w' := by
  obtain ⟨m1, -, rfl⟩ := hv1
  obtain ⟨A2, c2, l2, rfl, hv2⟩ := hv2
  obtain ⟨sets, ways⟩ := m1
  refine (ends_all a0 sets ways hv2).mono ?_
  rintro e w' ⟨v, rfl, rfl, hn⟩
  exact ⟨rfl, hn.nb⟩
end Go.Proofs.Ytflnlmibkbojcaa
