/-
  Part 2 of what the claim stands on: walks through the code, plain laws.
-/
import Derived.Test.YtflnlmibkbojcaaZEnds1
set_option maxRecDepth 100000
set_option maxHeartbeats 4000000
namespace Go.Proofs.Ytflnlmibkbojcaa
open Go.RowKit
theorem of_c (number : Int) (hnum : 0 ≤ number ∧ number < 4294967296) {w : World} {b n : Nat} {ways : Int} {S : Nat} {FpR : Nat → Prop} {rs : List Row} (hB : Blk w b 150 #[.slice (some ⟨S, 0, none⟩) n n, .int .i64 ways]) (hS : Blk w S 40 (rowsArr rs)) (hR : RowsAt w FpR rs) (hlen : rs.length = n) (hn : 0 < n ∧ n ≤ 64) {rA : Option Addr} {rc : Nat} {rl : List Ln} (hr : rs.getD (si n number) r0 = ⟨rA, rc, rl⟩) : Calls Try.prog 75 #[.pointer (some ⟨b, 0, none⟩), .int .u32 number] w (Ret fun v w' => v = .tuple #[.pointer (some ⟨S, si n number, none⟩), .int .i64 (fndI rl number)] ∧ New w w') := by
 have hsl := si_lt (n := n) (num := number) hn.1
 have hF := Only.refl (fun _ => False) w
 refine Zen 24 Try.func75 ?_
 refine Zsr ?_
 refine Znb (cs := #[.int .u32 number]) fun b1 w2 hN3 B4 hb5 => ?_
 refine Za ?_
 refine Zaq ?_
 refine ZhT (n := 13) 13 (fun w => Blk w b 150 #[.slice (some ⟨S, 0, none⟩) n n, .int .i64 ways] ∧ Blk w b1 32 (#[.int .u32 number]) ∧ True) ?_
 intro w6 hN7
 replace hB := (hB.new hN3).new hN7
 replace B4 := B4.new hN7
 have hS9 := And.intro hB (And.intro B4 trivial)
 refine Zhm 0 hS9 ?_
 refine Zhc 1 hS9 ?_
 refine Zhf 2 fo150_0 hS9 ?_
 refine Zhl (v := .slice (some ⟨S, 0, none⟩) n n) 3 pl148 hS9 (fun _ ⟨hB, _⟩ => (hB.cell 0 rfl)) ?_
 refine Zhl (v := .int .u32 number) 4 pl32 hS9 (fun _ ⟨_, B4, _⟩ => (B4.cell 0 rfl)) ?_
 refine Zhm 5 hS9 ?_
 refine Zhc 6 hS9 ?_
 refine Zhf 7 fo150_0 hS9 ?_
 refine Zhl (v := .slice (some ⟨S, 0, none⟩) n n) 8 pl148 hS9 (fun _ ⟨hB, _⟩ => (hB.cell 0 rfl)) ?_
 refine Zht 9 rfl _ hS9 (fun _ fr _ _ => x_len Try.underlying148 rfl (fr.ev rfl)) ?_
 refine Zht 10 rfl _ hS9 (fun _ fr _ _ => x_convert Try.underlying3 Try.underlying32 rfl (fr.ev rfl) (u32w (r := ((n : Nat) : Int)) rfl (by omega))) ?_
 refine Zht 11 rfl (.int .u32 ((si n number : Nat) : Int)) hS9 (fun _ fr _ _ => x_rem rfl (fr.ev rfl) (fr.ev rfl) (by omega) (tmod_si (by omega) (by omega))) ?_
 refine Zht 12 rfl (.pointer (some ⟨S, (si n number), none⟩)) hS9 (fun _ fr _ _ => x_indexV Try.underlying148 sz40 rfl (fr.ev rfl) (show (some ⟨S, 0, none⟩ : Option Addr) = some ⟨S, 0, none⟩ from rfl) (fr.ev rfl) (by omega) (show 0 + (si n number) * 1 = si n number by omega)) ?_
 refine Zhn ?_
 refine Ztl ?_
 refine Zan ?_
 refine Zsm ?_
 refine Zn ?_
 replace hS := (hS.new hN3).new hN7
 refine Zd (v := .slice rA rl.length rc) pl40 (hS.cell (si n number) (rows_cellAt (by omega) hr)) ?_
 refine Zv _ (fun _ fr => x_makeFunc (vs := [.pointer (some ⟨b1, 0, none⟩)]) rfl ⟨(fr.ev rfl), trivial⟩) ?_
 replace hR := (hR.new hN3).new hN7
 refine Zk (args := #[.slice rA rl.length rc, .func (.func 94) #[] #[.pointer (some ⟨b1, 0, none⟩)]]) cf93 (index_c ((hR.at_ (by omega) hr).view) B4) ?_
 rintro v w8 ⟨rfl, hN9⟩
 refine Zar ?_
 refine Zre rfl [_, _] ⟨rfl, rfl, trivial⟩ ?_
 replace hF := ((hF.trNew hN3).trNew hN7).trNew hN9
 exact ⟨_, rfl, rfl, hF⟩
def zv1 : Value := .agg (#[.int .u32 0, .int .i64 0, .int .u8 0, .int .u8 0, .int .u8 0, .int .u8 0, .int .u8 0, .int .u8 0, .int .u8 0, .int .u8 0, .int .u8 0, .int .u8 0, .int .u8 0, .int .u8 0, .int .u8 0, .int .u8 0, .int .u8 0, .int .u8 0])
theorem find_c (number : Int) (hnum : 0 ≤ number ∧ number < 4294967296) {w : World} {Fp : Nat → Prop} {b n : Nat} {ways : Int} {L : List Ln} (H : LinesAt w Fp b n ways L) : Calls Try.prog 55 #[.pointer (some ⟨b, 0, none⟩), .int .u32 number] w (Ret fun v w' => v = .tuple #[.agg (lnE.arr ((getN L number).getD ln0)), .bool (getN L number).isSome] ∧ New w w') := by
 obtain ⟨S, FpR, rs, hB, hS, hR, hP⟩ := H
 have hlen := hP.len
 obtain ⟨hn1, hn2, hw1, hw2⟩ := hP.bd
 have hsl := si_lt (n := n) (num := number) hn1
 obtain ⟨rA, rc, rl, hr⟩ : ∃ A9 c9 l9, rs.getD (si n number) r0 = ⟨A9, c9, l9⟩ := ⟨_, _, _, rfl⟩
 have hrl : rl = ofs n L (si n number) := by have := hP.row _ hsl; rw [hr] at this; exact this
 have hrow := hP.fits _ hsl
 rw [← hrl] at hrow
 have hF := Only.refl (fun _ => False) w
 refine Zen 24 Try.func55 ?_
 refine Zsr ?_
 refine Zna (z := zv1) (cs := lnE.arr ln0) (by kernel_rfl) fun b1 w2 hN3 B4 hb5 => ?_
 have g_b1 := hF.sz hb5
 refine Zaq ?_
 refine Zsm ?_
 replace hB := hB.new hN3
 refine Zk (args := #[.pointer (some ⟨b, 0, none⟩)]) cf74 (none_some hB (by omega)) ?_
 rintro v w9 ⟨rfl, hw9⟩
 obtain rfl := hw9.symm
 refine Znf ?_
 refine Zkn ?_
 refine Zsm ?_
 refine Zm ?_
 replace hS := hS.new hN3
 replace hR := hR.new hN3
 refine Zk (args := #[.pointer (some ⟨b, 0, none⟩), .int .u32 number]) cf75 (of_c number (by omega) hB hS hR hlen (by omega) hr) ?_
 rintro v w8 ⟨rfl, hN9⟩
 refine Zm ?_
 refine Ztt ?_
 refine Za ?_
 refine Zaq ?_
 refine Zsq ?_
 rcases fnd_spec rl number with ⟨hf, hno⟩ | ⟨i, hf, hi, hin, hall⟩
 ·intro a fr
  rw [hf] at fr
  revert a
  have hg : getN L number = none := by rw [← ofs_get (n := n), ← hrl]; exact fnd_none ⟨hf, hno⟩
  refine Zgm ?_
  refine Zv (.bool true) (fun _ fr => x_lss rfl (fr.ev rfl) rfl rfl) ?_
  refine Znt ?_
  refine Zrt ?_
  refine Zr1 ?_
  replace B4 := B4.new hN9
  refine Zre rfl [_, _] ⟨⟨_, rfl, loadV_E (E := lnE) ag39 rfl (B4.rangeE lnE)⟩, rfl, trivial⟩ ?_
  rw [hg]
  replace hF := (hF.trNew hN3).trNew hN9
  exact ⟨_, rfl, rfl, hF⟩
 ·intro a fr
  rw [hf] at fr
  revert a
  have hi0 : ¬ ((i : Nat) : Int) < 0 := by omega
  have hi1 : 0 ≤ ((i : Nat) : Int) := by omega
  have hg : getN L number = some (rl.getD i ln0) := by rw [← ofs_get (n := n), ← hrl]; exact get_at hi hin hall
  refine Zgm ?_
  refine Zv (.bool false) (fun _ fr => x_lss rfl (fr.ev rfl) rfl (decide_eq_false hi0)) ?_
  refine Znf ?_
  refine Zkn ?_
  refine Zsm ?_
  refine Zn ?_
  replace hS := hS.new hN9
  refine Zd (v := .slice rA rl.length rc) pl40 (hS.cell (si n number) (rows_cellAt (by omega) hr)) ?_
  refine Zm ?_
  replace hR := hR.new hN9
  obtain ⟨g10, o11, hA12⟩ := ((hR.at_ (by omega) hr).view).some_ (by omega)
  refine Zv (.pointer (some ⟨g10, o11 + i * 18, none⟩)) (fun _ fr => x_indexV Try.underlying40 sz39 rfl (fr.ev rfl) hA12 (fr.ev rfl) (by omega) rfl) ?_
  refine ZE lnE ag39 (((hR.at_ (by omega) hr).view).elem hA12 i ln0 (by omega)) ?_
  replace B4 := B4.new hN9
  refine ZsS sz39 (lnE.all _) B4 (lnE.size _) (lnE.size _) fun w13 hO14 B4 => ?_
  refine Zar ?_
  refine Zre rfl [_, _] ⟨⟨_, rfl, loadV_E (E := lnE) ag39 rfl (B4.rangeE lnE)⟩, rfl, trivial⟩ ?_
  rw [hg]
  replace hF := ((hF.trNew hN3).trNew hN9).loc hO14 (.inr g_b1)
  exact ⟨_, rfl, rfl, hF⟩
theorem drop_c (number : Int) (hnum : 0 ≤ number ∧ number < 4294967296) {w : World} {Fp : Nat → Prop} {b n : Nat} {ways : Int} {L : List Ln} (H : LinesAt w Fp b n ways L) : Calls Try.prog 76 #[.pointer (some ⟨b, 0, none⟩), .int .u32 number] w (Ret fun v w' => v = .bool (getN L number).isSome ∧ ∃ Fp', LinesAt w' Fp' b n ways (dropL L number) ∧ Only Fp w w' ∧ ∀ g, Fp' g → Fp g ∨ w.heap.size ≤ g) := by
 obtain ⟨S, FpR, rs, hB, hS, hR, hP⟩ := H
 have ne_b_S := hP.ne
 have ap_FpR_b := hP.apb
 have ap_FpR_S := hP.apS
 have hlen := hP.len
 obtain ⟨hn1, hn2, hw1, hw2⟩ := hP.bd
 have hsl := si_lt (n := n) (num := number) hn1
 obtain ⟨rA, rc, rl, hr⟩ : ∃ A9 c9 l9, rs.getD (si n number) r0 = ⟨A9, c9, l9⟩ := ⟨_, _, _, rfl⟩
 have hrl : rl = ofs n L (si n number) := by have := hP.row _ hsl; rw [hr] at this; exact this
 have hrow := hP.fits _ hsl
 rw [← hrl] at hrow
 have hFb : Fp b := (hP.foot b).2 (.inl rfl)
 have hFS : Fp S := (hP.foot S).2 (.inr (.inl rfl))
 have gA_FpR : ∀ g, FpR g → Fp g ∨ w.heap.size ≤ g := fun g hg => .inl ((hP.foot g).2 (.inr (.inr hg)))
 have hF := Only.refl (Fp) w
 refine Zen 26 Try.func76 ?_
 refine Zsr ?_
 refine Zaq ?_
 refine Zsm ?_
 refine Zk (args := #[.pointer (some ⟨b, 0, none⟩)]) cf74 (none_some hB (by omega)) ?_
 rintro v w9 ⟨rfl, hw9⟩
 obtain rfl := hw9.symm
 refine Znf ?_
 refine Zkn ?_
 refine Zsm ?_
 refine Zm ?_
 refine Zk (args := #[.pointer (some ⟨b, 0, none⟩), .int .u32 number]) cf75 (of_c number (by omega) hB hS hR hlen (by omega) hr) ?_
 rintro v w3 ⟨rfl, hN4⟩
 refine Zm ?_
 refine Ztt ?_
 refine Za ?_
 refine Zaq ?_
 refine Zsq ?_
 rcases fnd_spec rl number with ⟨hf, hno⟩ | ⟨i, hf, hi, hin, hall⟩
 ·intro a fr
  rw [hf] at fr
  revert a
  have hg : getN L number = none := by rw [← ofs_get (n := n), ← hrl]; exact fnd_none ⟨hf, hno⟩
  refine Zgm ?_
  refine Zv (.bool true) (fun _ fr => x_lss rfl (fr.ev rfl) rfl rfl) ?_
  refine Znt ?_
  refine Zsr ?_
  refine Zar ?_
  refine Zr1 ?_
  refine Zre rfl [_] ⟨rfl, trivial⟩ ?_
  have hd : dropL L number = L := rem_no (get_none hg)
  rw [hg, hd]
  replace hB := hB.new hN4
  replace hS := hS.new hN4
  replace hR := hR.new hN4
  replace hF := hF.trNew hN4
  exact ⟨_, rfl, rfl, Fp, ⟨S, FpR, rs, hB, hS, hR, hP⟩, hF, fun g hg => .inl hg⟩
 ·intro a fr
  rw [hf] at fr
  revert a
  have hi0 : ¬ ((i : Nat) : Int) < 0 := by omega
  have hi1 : 0 ≤ ((i : Nat) : Int) := by omega
  have hg : getN L number = some (rl.getD i ln0) := by rw [← ofs_get (n := n), ← hrl]; exact get_at hi hin hall
  refine Zgm ?_
  refine Zv (.bool false) (fun _ fr => x_lss rfl (fr.ev rfl) rfl (decide_eq_false hi0)) ?_
  refine Znf ?_
  refine Zkn ?_
  refine Zsq ?_
  replace hR := hR.new hN4
  obtain ⟨FpT, hT, hO, hAT, hFT⟩ := hR.splitAt (by omega) hr
  have ap2_rA_FpT : ∀ k, inA rA k → FpT k → False := hAT
  have ap_FpT_b : ¬ FpT b := fun h => ap_FpR_b ((hFT _).2 (.inl h))
  have ap_rA_b : Apart rA b := fun h => ap_FpR_b ((hFT _).2 (.inr h))
  have ap_FpT_S : ¬ FpT S := fun h => ap_FpR_S ((hFT _).2 (.inl h))
  have ap_rA_S : Apart rA S := fun h => ap_FpR_S ((hFT _).2 (.inr h))
  have gA_FpT : ∀ g, FpT g → Fp g ∨ w.heap.size ≤ g := fun g hg => gA_FpR g ((hFT g).2 (.inl hg))
  have gA_rA : ∀ g, inA rA g → Fp g ∨ w.heap.size ≤ g := fun g hg => gA_FpR g ((hFT g).2 (.inr hg))
  refine Zgm ?_
  refine Zm ?_
  refine Zn ?_
  replace hS := hS.new hN4
  refine Zd (v := .slice rA rl.length rc) pl40 (hS.cell (si n number) (rows_cellAt (by omega) hr)) ?_
  refine Zmm ?_
  refine Zv _ (fun _ fr => x_add rfl (fr.ev rfl) rfl (i64w (r := ((i + 1 : Nat) : Int)) (by omega) (by omega))) ?_
  refine Zk cf95 (delete_c hO i hi) ?_
  rintro v w6 ⟨rfl, O5, hN7⟩
  replace hO := O5
  refine Zn ?_
  replace hS := hS.only hN7 ap_rA_S
  refine Zs1 (cs' := rowsArr (rs.set (si n number) ⟨rA, rc, rl.take i ++ rl.drop (i + 1)⟩)) sz40 hS (by rw [rows_size]; omega) (rows_set rs (r := ⟨rA, rc, rl.take i ++ rl.drop (i + 1)⟩)) fun w8 hO9 hS => ?_
  refine Znn ?_
  refine Zsr ?_
  refine Zar ?_
  refine Zre rfl [_] ⟨rfl, trivial⟩ ?_
  have hl9 : rl.take i ++ rl.drop (i + 1) = ofs n (dropL L number) (si n number) := by rw [rem_at hi hin hall, hrl, remf_uniq (hP.uniq.ofs _), ofs_drop]
  rw [hg]
  replace hB := ((hB.new hN4).only hN7 ap_rA_b).only hO9 ne_b_S
  replace hF := ((hF.trNew hN4).locA hN7 gA_rA).loc hO9 (.inl hFS)
  replace hT := (hT.only hN7 (fun g h1 h2 => (symP ap2_rA_FpT) g h1 h2)).only hO9 (ne1P ap_FpT_S)
  replace hO := hO.only hO9 (Apart.ne1 ap_rA_S)
  exact ⟨_, rfl, rfl, _, lines_put hB hS hT hO (by omega) hAT ne_b_S ap_FpT_b ap_FpT_S ap_rA_b ap_rA_S hlen (fun j hj hne => by rw [hP.row j hj, ofs_drop_other _ _ hne]) hl9 hP.bd (hP.uniq.drop _) (hP.fits.drop _), hF, (fun g hg => by rcases hg with rfl | rfl | hg | hg; exact .inl hFb; exact .inl hFS; exact gA_FpT g hg; exact gA_rA g hg)⟩
theorem put_c (l : Ln) {w : World} {Fp : Nat → Prop} {b n : Nat} {ways : Int} {L : List Ln} (H : LinesAt w Fp b n ways L) : Calls Try.prog 56 #[.pointer (some ⟨b, 0, none⟩), .agg (lnE.arr l)] w (Ret fun v w' => v = .int .i64 (putE n ways L l) ∧ ∃ Fp', LinesAt w' Fp' b n ways (putL n ways L l) ∧ Only Fp w w' ∧ ∀ g, Fp' g → Fp g ∨ w.heap.size ≤ g) := by
 have hnum := l.hn
 obtain ⟨S, FpR, rs, hB, hS, hR, hP⟩ := H
 have ne_b_S := hP.ne
 have ap_FpR_b := hP.apb
 have ap_FpR_S := hP.apS
 have hlen := hP.len
 obtain ⟨hn1, hn2, hw1, hw2⟩ := hP.bd
 have hsl := si_lt (n := n) (num := l.num) hn1
 obtain ⟨rA, rc, rl, hr⟩ : ∃ A9 c9 l9, rs.getD (si n l.num) r0 = ⟨A9, c9, l9⟩ := ⟨_, _, _, rfl⟩
 have hrl : rl = ofs n L (si n l.num) := by have := hP.row _ hsl; rw [hr] at this; exact this
 have hrow := hP.fits _ hsl
 rw [← hrl] at hrow
 have hFb : Fp b := (hP.foot b).2 (.inl rfl)
 have hFS : Fp S := (hP.foot S).2 (.inr (.inl rfl))
 have gA_FpR : ∀ g, FpR g → Fp g ∨ w.heap.size ≤ g := fun g hg => .inl ((hP.foot g).2 (.inr (.inr hg)))
 have hF := Only.refl (Fp) w
 refine Zen 51 Try.func56 ?_
 refine Zsr ?_
 refine Znb (cs := lnE.arr l) fun b1 w2 hN3 B4 hb5 => ?_
 have ap_FpR_b1 := hR.apart hb5
 refine Zaq ?_
 refine Zsm ?_
 replace hB := hB.new hN3
 refine Zk (args := #[.pointer (some ⟨b, 0, none⟩)]) cf74 (none_some hB (by omega)) ?_
 rintro v w9 ⟨rfl, hw9⟩
 obtain rfl := hw9.symm
 refine Znf ?_
 refine Zkn ?_
 refine Zsq ?_
 refine Zsr ?_
 refine Zf fo39_1 ?_
 refine Zd (v := .int .i64 l.state) pl36 (B4.cell 1 rfl) ?_
 refine Zv _ (fun _ fr => x_lss rfl (fr.ev rfl) rfl rfl) ?_
 refine Zm ?_
 refine Zy (!(decide (l.state < 1))) _ (fun _ fr _ => x_fieldAddr fo39_1 rfl (fr.ev rfl) rfl) ?_
 refine Zy (!(decide (l.state < 1))) _ (fun _ fr hg => x_load1 pl36 rfl ((fr.ev rfl).trans (onlyIf_t hg)) (B4.cell 1 rfl)) ?_
 refine Zy (!(decide (l.state < 1))) _ (fun _ fr hg => x_gtr rfl ((fr.ev rfl).trans (onlyIf_t hg)) rfl rfl) ?_
 refine Zv (.bool ((decide (l.state < 1)) || (decide (3 < l.state)))) (fun _ fr => x_pick_or rfl (fr.ev rfl) (fun _ => rfl) (fun hb => ((fr.ev rfl)).trans (onlyIf_t (by simp_all))) rfl) ?_
 refine Znn ?_
 refine Zcd (fun hc8 => ?_) (fun hc8 => ?_)
 ·have hc8s := hc8
  try simp at hc8s
  refine Zsr ?_
  refine Zar ?_
  refine Zr1 ?_
  refine Zre rfl [_] ⟨rfl, trivial⟩ ?_
  have ho : okS l = false := by unfold okS; simp; omega
  have e1 : putE n ways L l = 2 := by unfold putE; rw [if_pos ho]
  have e2 : putL n ways L l = L := by unfold putL; rw [e1]; rfl
  rw [e1, e2]
  replace hS := hS.new hN3
  replace hR := hR.new hN3
  replace hF := hF.trNew hN3
  exact ⟨_, rfl, rfl, Fp, ⟨S, FpR, rs, hB, hS, hR, hP⟩, hF, fun g hg => .inl hg⟩
 ·have hc8s := hc8
  try simp at hc8s
  refine Zkn ?_
  refine Zsm ?_
  refine Zf fo39_0 ?_
  refine Zd (v := .int .u32 l.num) pl32 (B4.cell 0 rfl) ?_
  replace hS := hS.new hN3
  replace hR := hR.new hN3
  refine Zk (args := #[.pointer (some ⟨b, 0, none⟩), .int .u32 l.num]) cf75 (of_c l.num (by omega) hB hS hR hlen (by omega) hr) ?_
  rintro v w9 ⟨rfl, hN10⟩
  refine Zm ?_
  refine Ztt ?_
  refine Za ?_
  refine Zaq ?_
  refine Zbl ?_
  refine Zsq ?_
  rcases fnd_spec rl l.num with ⟨hf, hno⟩ | ⟨i, hf, hi, hin, hall⟩
  ·intro a fr
   rw [hf] at fr
   revert a
   have hg : getN L l.num = none := by rw [← ofs_get (n := n), ← hrl]; exact fnd_none ⟨hf, hno⟩
   refine Zgm ?_
   refine Zv (.bool false) (fun _ fr => x_geq rfl (fr.ev rfl) rfl rfl) ?_
   refine Zan ?_
   refine Zcf ?_
   refine Zsq ?_
   refine Zhd (n := 10) (fun w => Blk w b 150 #[.slice (some ⟨S, 0, none⟩) n n, .int .i64 ways] ∧ Blk w S 40 (rowsArr rs) ∧ True) ?_
   intro w11 hN12
   replace hB := (hB.new hN10).new hN12
   replace hS := (hS.new hN10).new hN12
   have hS9 := And.intro hB (And.intro hS trivial)
   refine Zhm 0 hS9 ?_
   refine Zhc 1 hS9 ?_
   refine Zhl (v := .slice rA rl.length rc) 2 pl40 hS9 (fun _ ⟨_, hS, _⟩ => (hS.cell (si n l.num) (rows_cellAt (by omega) hr))) ?_
   refine Zht 3 rfl _ hS9 (fun _ fr _ _ => x_len Try.underlying40 rfl (fr.ev rfl)) ?_
   refine Zhm 4 hS9 ?_
   refine Zhc 5 hS9 ?_
   refine Zhf 6 fo150_1 hS9 ?_
   refine Zhl (v := .int .i64 ways) 7 pl3 hS9 (fun _ ⟨hB, _⟩ => (hB.cell 1 rfl)) ?_
   refine Zht 8 rfl _ hS9 (fun _ fr _ _ => x_geq rfl (fr.ev rfl) (fr.ev rfl) rfl) ?_
   refine Zha 9 hS9 ?_
   refine Zhn ?_
   refine Znx ?_
   refine Zcd (fun hc13 => ?_) (fun hc13 => ?_)
   ·have hc13 := of_decide_eq_true hc13
    refine Zsr ?_
    refine Zar ?_
    refine Zr21 ?_
    refine Zre rfl [_] ⟨rfl, trivial⟩ ?_
    have ho : okS l = true := by unfold okS; simp; omega
    have ho' : ¬ okS l = false := by rw [ho]; decide
    have e1 : putE n ways L l = 200 := by unfold putE; rw [if_neg ho', if_pos ⟨hg, by rw [← hrl]; omega⟩]
    have e2 : putL n ways L l = L := by unfold putL; rw [e1]; rfl
    rw [e1, e2]
    replace hF := ((hF.trNew hN3).trNew hN10).trNew hN12
    replace hR := (hR.new hN10).new hN12
    exact ⟨_, rfl, rfl, Fp, ⟨S, FpR, rs, hB, hS, hR, hP⟩, hF, fun g hg => .inl hg⟩
   ·have hc13 := of_decide_eq_false hc13
    replace hR := (hR.new hN10).new hN12
    obtain ⟨FpT, hT, hO, hAT, hFT⟩ := hR.splitAt (by omega) hr
    have ap2_rA_FpT : ∀ k, inA rA k → FpT k → False := hAT
    have ap_FpT_b : ¬ FpT b := fun h => ap_FpR_b ((hFT _).2 (.inl h))
    have ap_rA_b : Apart rA b := fun h => ap_FpR_b ((hFT _).2 (.inr h))
    have ap_FpT_S : ¬ FpT S := fun h => ap_FpR_S ((hFT _).2 (.inl h))
    have ap_rA_S : Apart rA S := fun h => ap_FpR_S ((hFT _).2 (.inr h))
    have gA_FpT : ∀ g, FpT g → Fp g ∨ w.heap.size ≤ g := fun g hg => gA_FpR g ((hFT g).2 (.inl hg))
    have gA_rA : ∀ g, inA rA g → Fp g ∨ w.heap.size ≤ g := fun g hg => gA_FpR g ((hFT g).2 (.inr hg))
    have ap_rA_b1 : Apart rA b1 := fun h => ap_FpR_b1 ((hFT _).2 (.inr h))
    refine ZhT (n := 7) 7 (fun w => Blk w b1 39 (lnE.arr l) ∧ True) ?_
    intro w14 hN15
    replace B4 := ((B4.new hN10).new hN12).new hN15
    have hS9 := And.intro B4 trivial
    refine Zhm 0 hS9 ?_
    refine Zhm 1 hS9 ?_
    refine Zhc 2 hS9 ?_
    refine ZhE 4 lnE ag39 hS9 (fun _ ⟨B4, _⟩ => (B4.rangeE lnE)) ?_
    refine Zh2 3 5 ?_ ?_
    ·replace hS := hS.new hN15
     refine Zd (v := .slice rA rl.length rc) pl40 (hS.cell (si n l.num) (rows_cellAt (by omega) hr)) ?_
     refine Zhb ⟨B4, trivial⟩ ?_
     refine Zh1 5 ?_
     intro a fr
     refine fx_build1 (E := lnE) (p := l) elLn (by decide) fr rfl rfl (by decide) rfl (fr.ev rfl) ?_
     clear fr a
     intro A16 w17 hN18 O19 hA20
     replace B4 := B4.new hN18
     refine Zhb ⟨B4, trivial⟩ ?_
     refine Zh1 6 ?_
     intro a fr
     replace hO := (hO.new hN15).new hN18
     refine fx_append (E := lnE) (l := rl) (l' := [l]) elLn fr rfl rfl (by decide) rfl (fr.ev rfl) (fr.ev rfl) (by first | rfl | (simp; done) | (simp; omega)) (by first | rfl | (simp; done) | (simp; omega)) hO O19.view (by first | omega | (simp; omega)) (by unfold maxLen; first | omega | (simp; omega)) ?_
     clear fr a
     intro A21 cap22 w23 O24 hO25 mv26
     replace hB := (hB.new hN15).new hN18
     have ap_A21_b : Apart A21 b := moved_apart mv26 ap_rA_b hB.lt
     replace hS := hS.new hN18
     have ap_A21_S : Apart A21 S := moved_apart mv26 ap_rA_S hS.lt
     replace hT := (hT.new hN15).new hN18
     have ap2_A21_FpT : ∀ k, inA A21 k → FpT k → False := moved_apart2P mv26 ap2_rA_FpT fun _ hg => hT.lt hg
     replace hF := ((((hF.trNew hN3).trNew hN10).trNew hN12).trNew hN15).trNew hN18
     have gA_A21 := gA_moved hF mv26 gA_rA
     clear hO
     replace B4 := B4.only hO25 ap_rA_b1
     refine Zhb ⟨B4, trivial⟩ ?_
     refine Zhn ?_
     refine Ztl ?_
     refine Zn ?_
     replace hS := hS.only hO25 ap_rA_S
     refine Zs1 (cs' := rowsArr (rs.set (si n l.num) ⟨A21, cap22, rl ++ ([l])⟩)) sz40 hS (by rw [rows_size]; omega) (rows_set rs (r := ⟨A21, cap22, rl ++ ([l])⟩)) fun w27 hO28 hS => ?_
     refine Znl ?_
     refine Zbn ?_
     refine Zsr ?_
     refine Zar ?_
     refine Zre rfl [_] ⟨rfl, trivial⟩ ?_
     have ho : okS l = true := by unfold okS; simp; omega
     have ho' : ¬ okS l = false := by rw [ho]; decide
     have e1 : putE n ways L l = 0 := by unfold putE; rw [if_neg ho', if_neg (fun h => by rw [← hrl] at h; omega)]
     have e2 : putL n ways L l = L ++ [l] := by unfold putL; rw [if_pos e1, if_pos hg]
     have hu : Uniq (putL n ways L l) := hP.uniq.putL
     have hf9 : Fits n ways (putL n ways L l) := hP.fits.putL l
     rw [e2] at hu hf9
     rw [e1, e2]
     have hl9 : rl ++ [l] = ofs n (L ++ [l]) (si n l.num) := by rw [ofs_snoc_same, ← hrl]
     replace hB := (hB.only hO25 ap_rA_b).only hO28 ne_b_S
     replace hT := (hT.only hO25 (fun g h1 h2 => (symP ap2_rA_FpT) g h1 h2)).only hO28 (ne1P ap_FpT_S)
     replace hF := (hF.locA hO25 gA_rA).loc hO28 (.inl hFS)
     replace O24 := O24.only hO28 (Apart.ne1 ap_A21_S)
     exact ⟨_, rfl, rfl, _, lines_put (r := ⟨A21, cap22, rl ++ [l]⟩) hB hS hT O24 (by omega) ap2_A21_FpT ne_b_S ap_FpT_b ap_FpT_S ap_A21_b ap_A21_S hlen (fun j hj hne => by rw [hP.row j hj, ofs_snoc_other _ _ hne]) hl9 hP.bd hu hf9, hF, (fun g hg => by rcases hg with rfl | rfl | hg | hg; exact .inl hFb; exact .inl hFS; exact gA_FpT g hg; exact gA_A21 g hg)⟩
    ·intro a fr
     refine fx_build1 (E := lnE) (p := l) elLn (by decide) fr rfl rfl (by decide) rfl (fr.ev rfl) ?_
     clear fr a
     intro A29 w30 hN31 O32 hA33
     replace B4 := B4.new hN31
     refine Zhb ⟨B4, trivial⟩ ?_
     refine Zh1 3 ?_
     replace hS := (hS.new hN15).new hN31
     refine Zd (v := .slice rA rl.length rc) pl40 (hS.cell (si n l.num) (rows_cellAt (by omega) hr)) ?_
     refine Zhb ⟨B4, trivial⟩ ?_
     refine Zh1 6 ?_
     intro a fr
     replace hO := (hO.new hN15).new hN31
     refine fx_append (E := lnE) (l := rl) (l' := [l]) elLn fr rfl rfl (by decide) rfl (fr.ev rfl) (fr.ev rfl) (by first | rfl | (simp; done) | (simp; omega)) (by first | rfl | (simp; done) | (simp; omega)) hO O32.view (by first | omega | (simp; omega)) (by unfold maxLen; first | omega | (simp; omega)) ?_
     clear fr a
     intro A34 cap35 w36 O37 hO38 mv39
     replace hB := (hB.new hN15).new hN31
     have ap_A34_b : Apart A34 b := moved_apart mv39 ap_rA_b hB.lt
     have ap_A34_S : Apart A34 S := moved_apart mv39 ap_rA_S hS.lt
     replace hT := (hT.new hN15).new hN31
     have ap2_A34_FpT : ∀ k, inA A34 k → FpT k → False := moved_apart2P mv39 ap2_rA_FpT fun _ hg => hT.lt hg
     replace hF := ((((hF.trNew hN3).trNew hN10).trNew hN12).trNew hN15).trNew hN31
     have gA_A34 := gA_moved hF mv39 gA_rA
     clear hO
     replace B4 := B4.only hO38 ap_rA_b1
     refine Zhb ⟨B4, trivial⟩ ?_
     refine Zhn ?_
     refine Ztl ?_
     refine Zn ?_
     replace hS := hS.only hO38 ap_rA_S
     refine Zs1 (cs' := rowsArr (rs.set (si n l.num) ⟨A34, cap35, rl ++ ([l])⟩)) sz40 hS (by rw [rows_size]; omega) (rows_set rs (r := ⟨A34, cap35, rl ++ ([l])⟩)) fun w40 hO41 hS => ?_
     refine Znl ?_
     refine Zbn ?_
     refine Zsr ?_
     refine Zar ?_
     refine Zre rfl [_] ⟨rfl, trivial⟩ ?_
     have ho : okS l = true := by unfold okS; simp; omega
     have ho' : ¬ okS l = false := by rw [ho]; decide
     have e1 : putE n ways L l = 0 := by unfold putE; rw [if_neg ho', if_neg (fun h => by rw [← hrl] at h; omega)]
     have e2 : putL n ways L l = L ++ [l] := by unfold putL; rw [if_pos e1, if_pos hg]
     have hu : Uniq (putL n ways L l) := hP.uniq.putL
     have hf9 : Fits n ways (putL n ways L l) := hP.fits.putL l
     rw [e2] at hu hf9
     rw [e1, e2]
     have hl9 : rl ++ [l] = ofs n (L ++ [l]) (si n l.num) := by rw [ofs_snoc_same, ← hrl]
     replace hB := (hB.only hO38 ap_rA_b).only hO41 ne_b_S
     replace hT := (hT.only hO38 (fun g h1 h2 => (symP ap2_rA_FpT) g h1 h2)).only hO41 (ne1P ap_FpT_S)
     replace hF := (hF.locA hO38 gA_rA).loc hO41 (.inl hFS)
     replace O37 := O37.only hO41 (Apart.ne1 ap_A34_S)
     exact ⟨_, rfl, rfl, _, lines_put (r := ⟨A34, cap35, rl ++ [l]⟩) hB hS hT O37 (by omega) ap2_A34_FpT ne_b_S ap_FpT_b ap_FpT_S ap_A34_b ap_A34_S hlen (fun j hj hne => by rw [hP.row j hj, ofs_snoc_other _ _ hne]) hl9 hP.bd hu hf9, hF, (fun g hg => by rcases hg with rfl | rfl | hg | hg; exact .inl hFb; exact .inl hFS; exact gA_FpT g hg; exact gA_A34 g hg)⟩
  ·intro a fr
   rw [hf] at fr
   revert a
   have hi0 : ¬ ((i : Nat) : Int) < 0 := by omega
   have hi1 : 0 ≤ ((i : Nat) : Int) := by omega
   have hg : getN L l.num = some (rl.getD i ln0) := by rw [← ofs_get (n := n), ← hrl]; exact get_at hi hin hall
   refine Zgm ?_
   refine Zv (.bool true) (fun _ fr => x_geq rfl (fr.ev rfl) rfl (decide_eq_true hi1)) ?_
   refine Zan ?_
   refine Zct ?_
   replace hR := hR.new hN10
   obtain ⟨FpT, hT, hO, hAT, hFT⟩ := hR.splitAt (by omega) hr
   have ap2_rA_FpT : ∀ k, inA rA k → FpT k → False := hAT
   have ap_FpT_b : ¬ FpT b := fun h => ap_FpR_b ((hFT _).2 (.inl h))
   have ap_rA_b : Apart rA b := fun h => ap_FpR_b ((hFT _).2 (.inr h))
   have ap_FpT_S : ¬ FpT S := fun h => ap_FpR_S ((hFT _).2 (.inl h))
   have ap_rA_S : Apart rA S := fun h => ap_FpR_S ((hFT _).2 (.inr h))
   have gA_FpT : ∀ g, FpT g → Fp g ∨ w.heap.size ≤ g := fun g hg => gA_FpR g ((hFT g).2 (.inl hg))
   have gA_rA : ∀ g, inA rA g → Fp g ∨ w.heap.size ≤ g := fun g hg => gA_FpR g ((hFT g).2 (.inr hg))
   refine ZhT (n := 5) 5 (fun w => Blk w S 40 (rowsArr rs) ∧ Blk w b1 39 (lnE.arr l) ∧ True) ?_
   intro w42 hN43
   replace hS := (hS.new hN10).new hN43
   replace B4 := (B4.new hN10).new hN43
   have hS9 := And.intro hS (And.intro B4 trivial)
   refine Zhm 0 hS9 ?_
   refine Zhc 1 hS9 ?_
   refine Zhl (v := .slice rA rl.length rc) 2 pl40 hS9 (fun _ ⟨hS, _⟩ => (hS.cell (si n l.num) (rows_cellAt (by omega) hr))) ?_
   refine Zhm 3 hS9 ?_
   refine ZhE 4 lnE ag39 hS9 (fun _ ⟨_, B4, _⟩ => (B4.rangeE lnE)) ?_
   refine Zhn ?_
   refine Ztl ?_
   replace hO := hO.new hN43
   obtain ⟨g44, o45, hA46⟩ := (hO.view).some_ (by omega)
   refine Zv (.pointer (some ⟨g44, o45 + i * 18, none⟩)) (fun _ fr => x_indexV Try.underlying40 sz39 rfl (fr.ev rfl) hA46 (fr.ev rfl) (by omega) rfl) ?_
   intro a fr
   refine fx_storeRec (E := lnE) (x' := l) sz39 rfl rfl rfl hA46 hO (by first | omega | (simp only [List.length_set]; omega)) (fr.ev rfl) rfl (fr.ev rfl) fun w47 hO48 hBq => ?_
   revert a
   replace hO := hBq
   clear hBq
   refine Znl ?_
   refine Zbn ?_
   refine Zsr ?_
   refine Zar ?_
   refine Zre rfl [_] ⟨rfl, trivial⟩ ?_
   have ho : okS l = true := by unfold okS; simp; omega
   have ho' : ¬ okS l = false := by rw [ho]; decide
   have e1 : putE n ways L l = 0 := by unfold putE; rw [if_neg ho', if_neg (fun h => by rw [hg] at h; cases h.1)]
   have e2 : putL n ways L l = repl l L := by unfold putL; rw [if_pos e1, if_neg (by rw [hg]; intro h; cases h)]
   have hu : Uniq (putL n ways L l) := hP.uniq.putL
   have hf9 : Fits n ways (putL n ways L l) := hP.fits.putL l
   rw [e2] at hu hf9
   rw [e1, e2]
   have hl9 : rl.set i l = ofs n (repl l L) (si n l.num) := by rw [ofs_repl_same, ← hrl, set_at hi hin hall]
   replace hF := (((hF.trNew hN3).trNew hN10).trNew hN43).locA hO48 gA_rA
   replace hB := ((hB.new hN10).new hN43).only hO48 ap_rA_b
   replace hT := (hT.new hN43).only hO48 (fun g h1 h2 => (symP ap2_rA_FpT) g h1 h2)
   replace hS := hS.only hO48 ap_rA_S
   exact ⟨_, rfl, rfl, _, lines_put (r := ⟨rA, rc, rl.set i l⟩) hB (by rw [rows_same (by omega) hr List.length_set]; exact hS) hT hO (by omega) hAT ne_b_S ap_FpT_b ap_FpT_S ap_rA_b ap_rA_S hlen (fun j hj hne => by rw [hP.row j hj, ofs_repl_other _ _ hne]) hl9 hP.bd hu hf9, hF, (fun g hg => by rcases hg with rfl | rfl | hg | hg; exact .inl hFb; exact .inl hFS; exact gA_FpT g hg; exact gA_rA g hg)⟩
end Go.Proofs.Ytflnlmibkbojcaa
namespace Go.Proofs.Ytflnlmibkbojcaa
open Go.RowKit
theorem victim_c (number : Int) (hnum : 0 ≤ number ∧ number < 4294967296) (pick : Int) {w : World} {Fp : Nat → Prop} {b n : Nat} {ways : Int} {L : List Ln} (H : LinesAt w Fp b n ways L) : Calls Try.prog 45 #[.pointer (some ⟨b, 0, none⟩), .int .u32 number, .int .i64 pick] w (Ret fun v w' => v = .tuple #[.agg (lnE.arr ((vicL n ways L number pick).getD ln0)), .bool (vicL n ways L number pick).isSome] ∧ New w w') := by
 obtain ⟨S, FpR, rs, hB, hS, hR, hP⟩ := H
 have hlen := hP.len
 obtain ⟨hn1, hn2, hw1, hw2⟩ := hP.bd
 have hsl := si_lt (n := n) (num := number) hn1
 obtain ⟨rA, rc, rl, hr⟩ : ∃ A9 c9 l9, rs.getD (si n number) r0 = ⟨A9, c9, l9⟩ := ⟨_, _, _, rfl⟩
 have hrl : rl = ofs n L (si n number) := by have := hP.row _ hsl; rw [hr] at this; exact this
 have hrow := hP.fits _ hsl
 rw [← hrl] at hrow
 have hF := Only.refl (fun _ => False) w
 refine Zen 45 Try.func45 ?_
 refine Zsr ?_
 refine Zna (z := zv1) (cs := lnE.arr ln0) (by kernel_rfl) fun b1 w2 hN3 B4 hb5 => ?_
 have g_b1 := hF.sz hb5
 refine Zaq ?_
 refine Zsm ?_
 replace hB := hB.new hN3
 refine Zk (args := #[.pointer (some ⟨b, 0, none⟩)]) cf74 (none_some hB (by omega)) ?_
 rintro v w9 ⟨rfl, hw9⟩
 obtain rfl := hw9.symm
 refine Znf ?_
 refine Zkn ?_
 refine Zsm ?_
 refine Zm ?_
 replace hS := hS.new hN3
 replace hR := hR.new hN3
 refine Zk (args := #[.pointer (some ⟨b, 0, none⟩), .int .u32 number]) cf75 (of_c number (by omega) hB hS hR hlen (by omega) hr) ?_
 rintro v w8 ⟨rfl, hN9⟩
 refine Zm ?_
 refine Ztt ?_
 refine Za ?_
 refine Zaq ?_
 rcases fnd_spec rl number with ⟨hf, hno⟩ | ⟨i, hf, hi, hin, hall⟩
 ·intro a fr
  rw [hf] at fr
  revert a
  have hg : getN L number = none := by rw [← ofs_get (n := n), ← hrl]; exact fnd_none ⟨hf, hno⟩
  refine Zgm ?_
  refine Zn ?_
  replace hS := hS.new hN9
  refine Zd (v := .slice rA rl.length rc) pl40 (hS.cell (si n number) (rows_cellAt (by omega) hr)) ?_
  refine Zv _ (fun _ fr => x_len Try.underlying40 rfl (fr.ev rfl)) ?_
  refine Zaq ?_
  refine Zsm ?_
  refine Zv (.bool false) (fun _ fr => x_geq rfl (fr.ev rfl) rfl rfl) ?_
  refine Zmm ?_
  refine Zm ?_
  refine Zn ?_
  refine Zf fo150_1 ?_
  replace hB := hB.new hN9
  refine Zd (v := .int .i64 ways) pl3 (hB.cell 1 rfl) ?_
  refine Zv _ (fun _ fr => x_lss rfl (fr.ev rfl) (fr.ev rfl) rfl) ?_
  refine Zpf ?_
  refine Znn ?_
  refine Zcd (fun hc10 => ?_) (fun hc10 => ?_)
  ·have hc10 := of_decide_eq_true hc10
   refine Zrt ?_
   refine Zr1 ?_
   replace B4 := B4.new hN9
   refine Zre rfl [_, _] ⟨⟨_, rfl, loadV_E (E := lnE) ag39 rfl (B4.rangeE lnE)⟩, rfl, trivial⟩ ?_
   have hv : vicL n ways L number pick = none := by unfold vicL; rw [← hrl, if_neg (fun h => by omega)]
   rw [hv]
   replace hF := (hF.trNew hN3).trNew hN9
   exact ⟨_, rfl, rfl, hF⟩
  ·have hc10 := of_decide_eq_false hc10
   refine Zkn ?_
   refine Zsq ?_
   have hb := tmod_bd pick rl.length (by omega)
   have hp := pickAt_lt pick rl.length (by omega)
   refine ZhT (n := 12) 12 (fun w => Blk w S 40 (rowsArr rs) ∧ RowsAt w FpR rs ∧ True) ?_
   intro w11 hN12
   replace hR := (hR.new hN9).new hN12
   replace hS := hS.new hN12
   have hS9 := And.intro hS (And.intro hR trivial)
   refine Zhm 0 hS9 ?_
   refine Zhc 1 hS9 ?_
   refine Zhl (v := .slice rA rl.length rc) 2 pl40 hS9 (fun _ ⟨hS, _⟩ => (hS.cell (si n number) (rows_cellAt (by omega) hr))) ?_
   refine Zhm 3 hS9 ?_
   refine Zhm 4 hS9 ?_
   refine Zht 5 rfl (.int .i64 (Int.tmod pick ((rl.length : Nat) : Int))) hS9 (fun _ fr _ _ => x_rem rfl (fr.ev rfl) (fr.ev rfl) (by omega) rfl) ?_
   refine Zhm 6 hS9 ?_
   refine Zht 7 rfl _ hS9 (fun _ fr _ _ => x_add rfl (fr.ev rfl) (fr.ev rfl) (i64w (r := Int.tmod pick ((rl.length : Nat) : Int) + ((rl.length : Nat) : Int)) (by omega) (by omega))) ?_
   refine Zhm 8 hS9 ?_
   refine Zht 9 rfl (.int .i64 ((pickAt pick rl.length : Nat) : Int)) hS9 (fun _ fr _ _ => x_rem rfl (fr.ev rfl) (fr.ev rfl) (by omega) (pickAt_eq pick rl.length (by omega))) ?_
   obtain ⟨g13, o14, hA15⟩ := ((hR.at_ (by omega) hr).view).some_ (by omega)
   have hS9 := And.intro hS (And.intro hR trivial)
   refine Zht 10 rfl (.pointer (some ⟨g13, o14 + (pickAt pick rl.length) * 18, none⟩)) hS9 (fun _ fr _ _ => x_indexV Try.underlying40 sz39 rfl (fr.ev rfl) hA15 (fr.ev rfl) (by omega) rfl) ?_
   refine ZhE 11 lnE ag39 hS9 (fun _ ⟨_, hR, _⟩ => (((hR.at_ (by omega) hr).view).elem hA15 (pickAt pick rl.length) ln0 (by omega))) ?_
   refine Zhn ?_
   refine Ztl ?_
   replace B4 := (B4.new hN9).new hN12
   refine ZsS sz39 (lnE.all _) B4 (lnE.size _) (lnE.size _) fun w16 hO17 B4 => ?_
   refine Zar ?_
   refine Zre rfl [_, _] ⟨⟨_, rfl, loadV_E (E := lnE) ag39 rfl (B4.rangeE lnE)⟩, rfl, trivial⟩ ?_
   have hv : vicL n ways L number pick = some (rl.getD (pickAt pick rl.length) ln0) := by unfold vicL; rw [← hrl, if_pos ⟨hg, by omega⟩]
   rw [hv]
   replace hF := (((hF.trNew hN3).trNew hN9).trNew hN12).loc hO17 (.inr g_b1)
   exact ⟨_, rfl, rfl, hF⟩
 ·intro a fr
  rw [hf] at fr
  revert a
  have hi0 : ¬ ((i : Nat) : Int) < 0 := by omega
  have hi1 : 0 ≤ ((i : Nat) : Int) := by omega
  have hg : getN L number = some (rl.getD i ln0) := by rw [← ofs_get (n := n), ← hrl]; exact get_at hi hin hall
  refine Zgm ?_
  refine Zn ?_
  replace hS := hS.new hN9
  refine Zd (v := .slice rA rl.length rc) pl40 (hS.cell (si n number) (rows_cellAt (by omega) hr)) ?_
  refine Zv _ (fun _ fr => x_len Try.underlying40 rfl (fr.ev rfl)) ?_
  refine Zaq ?_
  refine Zsm ?_
  refine Zv (.bool true) (fun _ fr => x_geq rfl (fr.ev rfl) rfl (decide_eq_true hi1)) ?_
  refine Zm ?_
  refine Zss ?_
  refine Zss ?_
  refine Zss ?_
  refine Zpt ?_
  refine Znt ?_
  refine Zrt ?_
  refine Zr1 ?_
  replace B4 := B4.new hN9
  refine Zre rfl [_, _] ⟨⟨_, rfl, loadV_E (E := lnE) ag39 rfl (B4.rangeE lnE)⟩, rfl, trivial⟩ ?_
  have hv : vicL n ways L number pick = none := by unfold vicL; rw [if_neg (fun h => by rw [hg] at h; cases h.1)]
  rw [hv]
  replace hF := (hF.trNew hN3).trNew hN9
  exact ⟨_, rfl, rfl, hF⟩
theorem new_yes (n : Nat) (ways : Int) (w : World) (h : rightB ((n : Nat) : Int) ways = true) : Calls Try.prog 42 #[.int .i64 ((n : Nat) : Int), .int .i64 ways] w (Ret fun v w' => ∃ b Fp, v = .tuple #[.pointer (some ⟨b, 0, none⟩), .int .i64 0] ∧ LinesAt w' Fp b n ways [] ∧ (∀ g, Fp g → w.heap.size ≤ g) ∧ New w w') := by
 have hF := Only.refl (fun _ => False) w
 refine Zen 32 Try.func42 ?_
 refine Zsr ?_
 refine Za ?_
 refine Zaq ?_
 refine Zsq ?_
 obtain ⟨h1, h2, h3, h4, h5⟩ := right_yes h
 refine Zgm ?_
 refine Zv (.bool false) (fun _ fr => x_lss rfl (fr.ev rfl) rfl (decide_eq_false h1)) ?_
 refine Zmm ?_
 refine Zv (.bool false) (fun _ fr => x_gtr rfl (fr.ev rfl) rfl (decide_eq_false h2)) ?_
 refine Zpf ?_
 refine Zmm ?_
 refine Zm ?_
 refine Zv _ (fun _ fr => x_sub rfl (fr.ev rfl) rfl (i64w (r := ((n : Nat) : Int) - 1) (by omega) (by omega))) ?_
 refine Zv (.int .i64 (andI ((n : Nat) : Int))) (fun _ fr => x_and rfl (fr.ev rfl) (fr.ev rfl) rfl) ?_
 refine Zv (.bool false) (fun _ fr => x_neq rfl (fr.ev rfl) rfl (decide_eq_false h3)) ?_
 refine Zpf ?_
 refine Zmm ?_
 refine Zv (.bool false) (fun _ fr => x_lss rfl (fr.ev rfl) rfl (decide_eq_false h4)) ?_
 refine Zpf ?_
 refine Zmm ?_
 refine Zv (.bool false) (fun _ fr => x_gtr rfl (fr.ev rfl) rfl (decide_eq_false h5)) ?_
 refine Zpf ?_
 refine Znf ?_
 refine Zkn ?_
 refine Zsm ?_
 intro a fr
 refine fx_makeRows fr rfl rfl (by first | decide | simp) rfl (fr.ev rfl) (fr.ev rfl) (by omega) ?_
 clear fr a
 intro S1 w2 hN3 hS4 hb5
 have g_S1 := hF.sz hb5
 refine Zm ?_
 refine Zv (.agg (#[.slice (some ⟨S1, 0, none⟩) n n, .int .i64 ways])) (fun a fr => x_build (cells := #[.slice (some ⟨S1, 0, none⟩) n n, .int .i64 ways]) rfl (by simp only [List.map_toArray, List.map_cons, List.map_nil, show a.eval (.tmp 28) = .slice (some ⟨S1, 0, none⟩) n n from fr.ev rfl, show a.eval (.tmp 29) = .int .i64 ways from fr.ev rfl]; kernel_rfl)) ?_
 refine Znb (cs := #[.slice (some ⟨S1, 0, none⟩) n n, .int .i64 ways]) fun b6 w7 hN8 B9 hb10 => ?_
 have ne_S1_b6 := nelt hS4.lt hb10
 replace hF := hF.trNew hN3
 have g_b6 := hF.sz hb10
 refine Za ?_
 refine Zar ?_
 refine Zre rfl [_, _] ⟨rfl, rfl, trivial⟩ ?_
 have he : ∀ i, (List.replicate n r0).getD i r0 = r0 := fun i => by simp only [List.getD, List.getElem?_replicate]; split <;> rfl
 replace hS4 := hS4.new hN8
 replace hF := hF.trNew hN8
 exact ⟨_, rfl, b6, fun k => k = b6 ∨ k = S1 ∨ False, rfl, ⟨S1, fun _ => False, List.replicate n r0, B9, hS4, RowsAt.nil _ n, ne_S1_b6.symm, id, id, fun k => Iff.rfl, List.length_replicate, fun i _ => by rw [he]; rfl, by omega, List.Pairwise.nil, Fits.nil (by omega)⟩, (fun g hg => by rcases hg with rfl | rfl | hg; exact g_b6; exact g_S1; exact hg.elim), hF⟩
theorem copy_c {w : World} {Fp : Nat → Prop} {b n : Nat} {ways : Int} {L : List Ln} (H : LinesAt w Fp b n ways L) : Calls Try.prog 67 #[.pointer (some ⟨b, 0, none⟩)] w (Ret fun v w' => ∃ b' Fp', v = .pointer (some ⟨b', 0, none⟩) ∧ LinesAt w' Fp' b' n ways L ∧ (∀ g, Fp' g → w.heap.size ≤ g) ∧ New w w') := by
 obtain ⟨S, FpR, rs, hB, hS, hR, hP⟩ := H
 have hlen := hP.len
 obtain ⟨hn1, hn2, hw1, hw2⟩ := hP.bd
 have hF := Only.refl (fun _ => False) w
 refine Zen 40 Try.func67 ?_
 refine Zsr ?_
 refine Zaq ?_
 refine Zsm ?_
 refine Zk (args := #[.pointer (some ⟨b, 0, none⟩)]) cf74 (none_some hB (by omega)) ?_
 rintro v w9 ⟨rfl, hw9⟩
 obtain rfl := hw9.symm
 refine Znf ?_
 refine Zkn ?_
 refine Zsq ?_
 refine ZhT (n := 12) 12 (fun w => Blk w b 150 #[.slice (some ⟨S, 0, none⟩) n n, .int .i64 ways] ∧ True) ?_
 intro w3 hN4
 replace hB := hB.new hN4
 have hS9 := And.intro hB trivial
 refine Zhm 0 hS9 ?_
 refine Zhc 1 hS9 ?_
 refine Zhf 2 fo150_0 hS9 ?_
 refine Zhl (v := .slice (some ⟨S, 0, none⟩) n n) 3 pl148 hS9 (fun _ ⟨hB, _⟩ => (hB.cell 0 rfl)) ?_
 refine Zht 4 rfl _ hS9 (fun _ fr _ _ => x_len Try.underlying148 rfl (fr.ev rfl)) ?_
 refine Zhm 6 hS9 ?_
 refine Zhc 7 hS9 ?_
 refine Zhf 8 fo150_1 hS9 ?_
 refine Zhl (v := .int .i64 ways) 9 pl3 hS9 (fun _ ⟨hB, _⟩ => (hB.cell 1 rfl)) ?_
 refine Zh1 5 ?_
 intro a fr
 refine fx_makeRows fr rfl rfl (by first | decide | simp) rfl (fr.ev rfl) (fr.ev rfl) (by omega) ?_
 clear fr a
 intro S5 w6 hN7 hS8 hb9
 have ne_b_S5 := nelt hB.lt hb9
 replace hS := hS.new hN4
 have ne_S_S5 := nelt hS.lt hb9
 replace hR := hR.new hN4
 have ap_FpR_S5 := hR.apart hb9
 replace hF := hF.trNew hN4
 have g_S5 := hF.sz hb9
 replace hB := hB.new hN7
 refine Zhb ⟨hB, trivial⟩ ?_
 have hS9 := And.intro hB trivial
 refine Zht 10 rfl (.agg (#[.slice (some ⟨S5, 0, none⟩) n n, .int .i64 ways])) hS9 (fun a fr _ _ => x_build (cells := #[.slice (some ⟨S5, 0, none⟩) n n, .int .i64 ways]) rfl (by simp only [List.map_toArray, List.map_cons, List.map_nil, show a.eval (.tmp 13) = .slice (some ⟨S5, 0, none⟩) n n from fr.ev rfl, show a.eval (.tmp 17) = .int .i64 ways from fr.ev rfl]; kernel_rfl)) ?_
 refine Zh1 11 ?_
 refine Znb (cs := #[.slice (some ⟨S5, 0, none⟩) n n, .int .i64 ways]) fun b10 w11 hN12 B13 hb14 => ?_
 have ne_S5_b10 := nelt hS8.lt hb14
 replace hF := hF.trNew hN7
 have g_b10 := hF.sz hb14
 replace hB := hB.new hN12
 refine Zhb ⟨hB, trivial⟩ ?_
 refine Zhn ?_
 refine Ztl ?_
 refine Zaq ?_
 refine Zsm ?_
 refine Zn ?_
 refine Zf fo150_0 ?_
 refine Zd (v := .slice (some ⟨S, 0, none⟩) n n) pl148 (hB.cell 0 rfl) ?_
 refine Zv _ (fun _ fr => x_len Try.underlying148 rfl (fr.ev rfl)) ?_
 refine Zm ?_
 refine Znn ?_
 refine Zbl ?_
 intro a fr
 replace hS := (hS.new hN7).new hN12
 replace hR := (hR.new hN7).new hN12
 replace hS8 := hS8.new hN12
 replace hF := hF.trNew hN12
 refine fx_loop (fun nM a wL => ∃ i : Nat, ∃ r2 : List Row, ∃ FpQ : Nat → Prop, nM = n - i ∧ Fr (40, []) [(0, .pointer (some ⟨b, 0, none⟩)), (2, .pointer none), (23, .slice (some ⟨S, 0, none⟩) n n), (24, .int .i64 ((n : Nat) : Int)), (3, .pointer (some ⟨b10, 0, none⟩)), (25, .int .i64 ((i : Nat) : Int))] a ∧ Only (fun _ => False) w wL ∧ Blk wL b 150 #[.slice (some ⟨S, 0, none⟩) n n, .int .i64 ways] ∧ Blk wL S 40 (rowsArr rs) ∧ RowsAt wL FpR rs ∧ Blk wL b10 150 #[.slice (some ⟨S5, 0, none⟩) n n, .int .i64 ways] ∧ Blk wL S5 40 (rowsArr r2) ∧ RowsAt wL FpQ r2 ∧ i ≤ n ∧ r2.length = n ∧ (∀ j, j < i → (r2.getD j r0).l = (rs.getD j r0).l) ∧ (∀ j, i ≤ j → j < n → r2.getD j r0 = r0) ∧ (¬ FpQ b) ∧ (¬ FpQ S) ∧ (∀ k, FpR k → FpQ k → False) ∧ (¬ FpQ b10) ∧ (¬ FpQ S5) ∧ (∀ g, FpQ g → (fun _ => False) g ∨ w.heap.size ≤ g)) (n0 := _) ⟨0, (List.replicate n r0), (fun _ => False), rfl, fr.sub ⟨rfl, rfl, rfl, rfl, rfl, rfl, trivial⟩, hF, hB, hS, hR, B13, hS8, (RowsAt.nil _ n), by omega, List.length_replicate, fun j hj => absurd hj (by omega), fun j _ _ => by simp only [List.getD, List.getElem?_replicate]; split <;> rfl, (fun h => h.elim), (fun h => h.elim), (fun k h1 hk => (fun h => h.elim) hk), (fun h => h.elim), (fun h => h.elim), (fun g hg => (fun h => h.elim) hg)⟩ ?_
 clear fr a
 rintro n16 a w15 ⟨i, r2, FpQ, rfl, fr, hF, hB, hS, hR, B13, hS2, hR2, hi, hl2, hy, hz, ap_FpQ_b, ap_FpQ_S, ap2_FpR_FpQ, ap_FpQ_b10, ap_FpQ_S5, gA_FpQ⟩
 revert a
 refine Zsr ?_
 refine Zv _ (fun _ fr => x_lss rfl (fr.ev rfl) (fr.ev rfl) rfl) ?_
 refine Znq ?_
 refine Zcd (fun hc17 => ?_) (fun hc17 => ?_)
 ·have hc17 := of_decide_eq_true hc17
  refine Zkn ?_
  refine Zsq ?_
  refine Zbl ?_
  refine Zsq ?_
  obtain ⟨rA, rc, rl, hr⟩ : ∃ A9 c9 l9, rs.getD i r0 = ⟨A9, c9, l9⟩ := ⟨_, _, _, rfl⟩
  have hrl : ((rl.length : Nat) : Int) ≤ ways := by have h1 := hP.row i (by omega); have h2 := hP.fits i (by omega); rw [hr] at h1; rw [← h1] at h2; exact h2
  refine Zgm ?_
  refine Zv (.pointer (some ⟨S, i, none⟩)) (fun _ fr => x_indexV Try.underlying148 sz40 rfl (fr.ev rfl) (show (some ⟨S, 0, none⟩ : Option Addr) = some ⟨S, 0, none⟩ from rfl) (fr.ev rfl) (by omega) (show 0 + i * 1 = i by omega)) ?_
  refine Zd (v := .slice rA rl.length rc) pl40 (hS.cell i (rows_cellAt (by omega) hr)) ?_
  refine Za ?_
  refine Zan ?_
  refine ZhT (n := 7) 7 (fun w => Blk w b10 150 #[.slice (some ⟨S5, 0, none⟩) n n, .int .i64 ways] ∧ True) ?_
  intro w18 hN19
  replace B13 := B13.new hN19
  have hS9 := And.intro B13 trivial
  refine Zhm 0 hS9 ?_
  refine Zhc 1 hS9 ?_
  refine Zhf 2 fo150_0 hS9 ?_
  refine Zhl (v := .slice (some ⟨S5, 0, none⟩) n n) 3 pl148 hS9 (fun _ ⟨B13, _⟩ => (B13.cell 0 rfl)) ?_
  refine Zhm 4 hS9 ?_
  refine Zhm 5 hS9 ?_
  refine Zh1 6 ?_
  replace hR := hR.new hN19
  refine Zk (args := #[.slice rA rl.length rc]) cf80 (clone_c ((hR.at_ (by omega) hr).view) (by omega)) ?_
  rintro v w24 ⟨A20, cap21, rfl, O22, hA23, hN25⟩
  replace hB := hB.new hN19
  have ap_A20_b : Apart A20 b := new_apart hA23 hB.lt
  replace hS := hS.new hN19
  have ap_A20_S : Apart A20 S := new_apart hA23 hS.lt
  have ap2_FpR_A20 : ∀ k, FpR k → inA A20 k → False := symP (new_apart2P hA23 fun _ hg => hR.lt hg)
  have ap_A20_b10 : Apart A20 b10 := new_apart hA23 B13.lt
  replace hS2 := hS2.new hN19
  have ap_A20_S5 : Apart A20 S5 := new_apart hA23 hS2.lt
  replace hR2 := hR2.new hN19
  have ap2_FpQ_A20 : ∀ k, FpQ k → inA A20 k → False := symP (new_apart2P hA23 fun _ hg => hR2.lt hg)
  replace hF := hF.trNew hN19
  have gA_A20 := gA_new hF hA23
  replace B13 := B13.new hN25
  refine Zhb ⟨B13, trivial⟩ ?_
  refine Zhn ?_
  refine Ztl ?_
  refine Zv (.pointer (some ⟨S5, i, none⟩)) (fun _ fr => x_indexV Try.underlying148 sz40 rfl (fr.ev rfl) (show (some ⟨S5, 0, none⟩ : Option Addr) = some ⟨S5, 0, none⟩ from rfl) (fr.ev rfl) (by omega) (show 0 + i * 1 = i by omega)) ?_
  replace hS2 := hS2.new hN25
  refine Zs1 (cs' := rowsArr (r2.set i ⟨A20, cap21, rl⟩)) sz40 hS2 (by rw [rows_size]; omega) (rows_set r2 (r := ⟨A20, cap21, rl⟩)) fun w26 hO27 hS2 => ?_
  refine Znl ?_
  refine Zbn ?_
  refine Zrg ?_
  refine Zv _ (fun _ fr => x_add rfl (fr.ev rfl) rfl (i64w (r := ((i + 1 : Nat) : Int)) (by omega) (by omega))) ?_
  refine Zm ?_
  intro a fr
  refine wpList_nil ?_
  refine fx_next ?_
  replace hB := (hB.new hN25).only hO27 ne_b_S5
  replace hS := (hS.new hN25).only hO27 ne_S_S5
  replace hR := (hR.new hN25).only hO27 (ne1P ap_FpR_S5)
  replace hR2 := (hR2.new hN25).only hO27 (ne1P ap_FpQ_S5)
  replace hF := (hF.trNew hN25).loc hO27 (.inr g_S5)
  replace B13 := B13.only hO27 ne_S5_b10.symm
  replace O22 := O22.only hO27 (Apart.ne1 ap_A20_S5)
  exact ⟨_, by omega, (i + 1), (r2.set i ⟨A20, cap21, rl⟩), (fun k => FpQ k ∨ inA A20 k), rfl, fr.sub ⟨rfl, rfl, rfl, rfl, rfl, rfl, trivial⟩, hF, hB, hS, hR, B13, hS2, (hR2.put (by omega) (hz i (Nat.le_refl _) (by omega)) O22 (symP ap2_FpQ_A20)), by omega, by rw [List.length_set]; exact hl2, fun j hj => by rw [getD_setR (by omega)]; by_cases e : i = j; (subst e; rw [if_pos rfl]; show rl = _; rw [hr]); (rw [if_neg e]; exact hy j (by omega)), fun j hj hj2 => by rw [getD_setR (by omega), if_neg (by omega)]; exact hz j (by omega) hj2, (fun h => h.elim ap_FpQ_b ap_A20_b), (fun h => h.elim ap_FpQ_S ap_A20_S), (fun k h1 hk => (fun h => h.elim (ap2_FpR_FpQ k h1) (ap2_FpR_A20 k h1)) hk), (fun h => h.elim ap_FpQ_b10 ap_A20_b10), (fun h => h.elim ap_FpQ_S5 ap_A20_S5), (fun g hg => (fun h => h.elim (gA_FpQ g) (gA_A20 g)) hg)⟩
 ·have hc17 := of_decide_eq_false hc17
  refine Zex ?_
  refine Zxt ?_
  refine Zxt ?_
  refine Zxx ?_
  refine Znx ?_
  refine Zsm ?_
  refine Zar ?_
  refine Zre rfl [_] ⟨rfl, trivial⟩ ?_
  exact ⟨_, rfl, b10, fun k => k = b10 ∨ k = S5 ∨ FpQ k, rfl, ⟨S5, FpQ, r2, B13, hS2, hR2, ne_S5_b10.symm, ap_FpQ_b10, ap_FpQ_S5, fun k => Iff.rfl, hl2, fun j hj => by rw [hy j (by omega), hP.row j hj], hP.bd, hP.uniq, hP.fits⟩, (fun g hg => by rcases hg with rfl | rfl | hg; exact g_b10; exact g_S5; exact (gA_FpQ g hg).resolve_left id), hF⟩
end Go.Proofs.Ytflnlmibkbojcaa
namespace Go.Proofs.Ytflnlmibkbojcaa
open Go.RowKit
theorem all_stops {w : World} {Fp : Nat → Prop} {b n : Nat} {ways : Int} {L : List Ln} (H : LinesAt w Fp b n ways L) {bn : Nat} (Bn : Blk w bn 79 #[.pointer (some ⟨b, 0, none⟩)]) {S9 : Nat → Prop} (hS_bn : ¬ S9 bn) (hS_F : ∀ g, Fp g → ¬ S9 g) : SeqStopsK Fence.wide 8 Try.prog 82 #[.pointer (some ⟨bn, 0, none⟩)] (fun x : Ln => #[.agg (lnE.arr x)]) (Only S9) (fun ys => ys = allL n L) (fun pre => pre <+: allL n L) (allL n L).length w := by
 intro y J Jx w1 hW hJ hJx hY h0
 have hn := below_new hW
 replace H := H.new hn
 replace Bn := Bn.new hn
 obtain ⟨S, FpR, rs, hB, hS, hR, hP⟩ := H
 have ne_b_S := hP.ne
 have ap_FpR_b := hP.apb
 have ap_FpR_S := hP.apS
 have hlen := hP.len
 obtain ⟨hn1, hn2, hw1, hw2⟩ := hP.bd
 have hFb : Fp b := (hP.foot b).2 (.inl rfl)
 have hFS : Fp S := (hP.foot S).2 (.inr (.inl rfl))
 show CallsIn Fence.wide 8 Try.prog 82 #[.func (.yield y) #[] #[], .pointer (some ⟨bn, 0, none⟩)] w1 _
 refine (callsIn_wide (n := 8)).2 ?_
 refine fx_enter Try.func82 rfl (N := (30, [])) (T := [(0, .func (.yield y) #[] #[]), (1, .pointer (some ⟨bn, 0, none⟩))]) rfl (show 2 ≤ 30 by decide) ⟨rfl, rfl, trivial⟩ fun a fr => ?_
 refine wp_scope_straight ?_
 refine wp_seq ?_
 refine wp_seq ?_
 refine wp_region_lit ?_
 refine fx_val (v := .pointer (some ⟨b, 0, none⟩)) fr rfl rfl (by decide) (x_load1 pl79 rfl (fr.ev rfl) (Bn.cell 0 rfl)) ?_
 clear fr a; intro a fr
 refine fx_val (v := .bool false) fr rfl rfl (by decide) (x_peql Try.underlying79 rfl (fr.ev rfl) rfl rfl) ?_
 clear fr a; intro a fr
 refine wpList_nil ?_
 refine fx_next ?_
 refine fx_cond_f fr rfl ?_
 refine wp_skip ?_
 refine fx_next ?_
 refine wp_seq ?_
 refine wp_label ?_
 refine fx_next ?_
 refine wp_seq ?_
 refine wp_region_lit ?_
 refine fx_val (v := .pointer (some ⟨b, 0, none⟩)) fr rfl rfl (by decide) (x_load1 pl79 rfl (fr.ev rfl) (Bn.cell 0 rfl)) ?_
 clear fr a; intro a fr
 refine fx_val (v := .pointer (some ⟨b, 0, none⟩)) fr rfl rfl (by decide) (x_nilCheck rfl (fr.ev rfl)) ?_
 clear fr a; intro a fr
 refine fx_val (v := .pointer (some ⟨b, 0, none⟩)) fr rfl rfl (by decide) (x_fieldAddr fo150_0 rfl (fr.ev rfl) rfl) ?_
 clear fr a; intro a fr
 refine fx_val (v := .slice (some ⟨S, 0, none⟩) n n) fr rfl rfl (by decide) (x_load1 pl148 rfl (fr.ev rfl) (hB.cell 0 rfl)) ?_
 clear fr a; intro a fr
 refine fx_val (v := .int .i64 ((n : Nat) : Int)) fr rfl rfl (by decide) (x_len Try.underlying148 rfl (fr.ev rfl)) ?_
 clear fr a; intro a fr
 refine fx_val (v := .int .i64 0) fr rfl rfl (by decide) (x_move rfl rfl) ?_
 clear fr a; intro a fr
 refine wpList_nil ?_
 refine fx_next ?_
 refine wp_block ?_
 refine fx_loop (fun nM a wL => ∃ i : Nat, nM = n - i ∧ Fr (30, []) [(0, .func (.yield y) #[] #[]), (1, .pointer (some ⟨bn, 0, none⟩)), (12, .slice (some ⟨S, 0, none⟩) n n), (13, .int .i64 ((n : Nat) : Int)), (14, .int .i64 ((i : Nat) : Int))] a ∧ Blk wL bn 79 #[.pointer (some ⟨b, 0, none⟩)] ∧ Blk wL b 150 #[.slice (some ⟨S, 0, none⟩) n n, .int .i64 ways] ∧ Blk wL S 40 (rowsArr rs) ∧ RowsAt wL FpR rs ∧ J (allP n L i) wL ∧ i ≤ n) (n0 := _) ⟨0, rfl, fr.sub ⟨rfl, rfl, rfl, rfl, rfl, trivial⟩, Bn, hB, hS, hR, h0, by omega⟩ ?_
 rintro n2 a w1 ⟨i, rfl, fr, Bn, hB, hS, hR, hj, hi⟩
 refine wp_seq ?_
 refine wp_region_lit ?_
 refine fx_val (v := .bool (decide (((i : Nat) : Int) < ((n : Nat) : Int)))) fr rfl rfl (by decide) (x_lss rfl (fr.ev rfl) (fr.ev rfl) rfl) ?_
 clear fr a; intro a fr
 refine wpList_nil ?_
 refine fx_next ?_
 refine wp_seq ?_
 refine fx_cond fr rfl (fun hc3 => ?_) (fun hc3 => ?_)
 ·skip
  have hc3 := of_decide_eq_true hc3
  refine wp_skip ?_
  refine fx_next ?_
  refine wp_seq ?_
  refine wp_block ?_
  refine wp_seq ?_
  obtain ⟨rA, rc, rl, hr⟩ : ∃ A9 c9 l9, rs.getD i r0 = ⟨A9, c9, l9⟩ := ⟨_, _, _, rfl⟩
  have hrl : rl = ofs n L i := by have h1 := hP.row i (by omega); rw [hr] at h1; exact h1
  have hrb := hP.fits i (by omega)
  rw [← hrl] at hrb
  refine wp_region_lit ?_
  refine fx_val (v := .pointer (some ⟨S, i, none⟩)) fr rfl rfl (by decide) (x_indexV Try.underlying148 sz40 rfl (fr.ev rfl) (show (some ⟨S, 0, none⟩ : Option Addr) = some ⟨S, 0, none⟩ from rfl) (fr.ev rfl) (by omega) (show 0 + i * 1 = i by omega)) ?_
  clear fr a; intro a fr
  refine fx_val (v := .slice rA rl.length rc) fr rfl rfl (by decide) (x_load1 pl40 rfl (fr.ev rfl) (hS.cell i (rows_cellAt (by omega) hr))) ?_
  clear fr a; intro a fr
  refine fx_val (v := .slice rA rl.length rc) fr rfl rfl (by decide) (x_assign rfl (fr.ev rfl)) ?_
  clear fr a; intro a fr
  refine wpList_nil ?_
  refine fx_next ?_
  refine wp_seq ?_
  refine wp_region_lit ?_
  refine fx_val (v := .slice rA rl.length rc) fr rfl rfl (by decide) (x_move rfl (fr.ev rfl)) ?_
  clear fr a; intro a fr
  refine fx_val (v := .int .i64 ((rl.length : Nat) : Int)) fr rfl rfl (by decide) (x_len Try.underlying40 rfl (fr.ev rfl)) ?_
  clear fr a; intro a fr
  refine fx_val (v := .int .i64 0) fr rfl rfl (by decide) (x_move rfl rfl) ?_
  clear fr a; intro a fr
  refine wpList_nil ?_
  refine fx_next ?_
  refine wp_block ?_
  refine fx_loop (fun nM a wL => ∃ j : Nat, nM = rl.length - j ∧ Fr (30, []) [(0, .func (.yield y) #[] #[]), (1, .pointer (some ⟨bn, 0, none⟩)), (12, .slice (some ⟨S, 0, none⟩) n n), (13, .int .i64 ((n : Nat) : Int)), (14, .int .i64 ((i : Nat) : Int)), (18, .slice rA rl.length rc), (19, .int .i64 ((rl.length : Nat) : Int)), (20, .int .i64 ((j : Nat) : Int))] a ∧ Blk wL bn 79 #[.pointer (some ⟨b, 0, none⟩)] ∧ Blk wL b 150 #[.slice (some ⟨S, 0, none⟩) n n, .int .i64 ways] ∧ Blk wL S 40 (rowsArr rs) ∧ RowsAt wL FpR rs ∧ J (allP n L i ++ rl.take j) wL ∧ j ≤ rl.length) (n0 := _) ⟨0, rfl, fr.sub ⟨rfl, rfl, rfl, rfl, rfl, rfl, rfl, rfl, trivial⟩, Bn, hB, hS, hR, (by rw [List.take_zero, List.append_nil]; exact hj), by omega⟩ ?_
  rintro n5 a w4 ⟨j, rfl, fr, Bn, hB, hS, hR, hj, hjr⟩
  refine wp_seq ?_
  refine wp_region_lit ?_
  refine fx_val (v := .bool (decide (((j : Nat) : Int) < ((rl.length : Nat) : Int)))) fr rfl rfl (by decide) (x_lss rfl (fr.ev rfl) (fr.ev rfl) rfl) ?_
  clear fr a; intro a fr
  refine wpList_nil ?_
  refine fx_next ?_
  refine wp_seq ?_
  refine fx_cond fr rfl (fun hc6 => ?_) (fun hc6 => ?_)
  ·skip
   have hc6 := of_decide_eq_true hc6
   refine wp_skip ?_
   refine fx_next ?_
   refine wp_seq ?_
   refine wp_block ?_
   refine wp_seq ?_
   have hF := Only.refl (fun _ => False) w4
   refine wp_region_lit ?_
   obtain ⟨g7, o8, hA9⟩ := ((hR.at_ (by omega) hr).view).some_ (by omega)
   refine fx_val (v := .pointer (some ⟨g7, o8 + j * 18, none⟩)) fr rfl rfl (by decide) (x_indexV Try.underlying40 sz39 rfl (fr.ev rfl) hA9 (fr.ev rfl) (by omega) rfl) ?_
   clear fr a; intro a fr
   refine fx_val (v := .agg (lnE.arr (rl.getD j ln0))) fr rfl rfl (by decide) (x_loadE (E := lnE) ag39 rfl rfl (fr.ev rfl) (((hR.at_ (by omega) hr).view).elem hA9 j ln0 (by omega))) ?_
   clear fr a; intro a fr
   refine fx_new fr rfl rfl (by decide) (x_alloc (z := .agg (#[.int .u32 0, .int .i64 0, .int .u8 0, .int .u8 0, .int .u8 0, .int .u8 0, .int .u8 0, .int .u8 0, .int .u8 0, .int .u8 0, .int .u8 0, .int .u8 0, .int .u8 0, .int .u8 0, .int .u8 0, .int .u8 0, .int .u8 0, .int .u8 0])) (cs := lnE.arr ln0) rfl (by kernel_rfl) rfl) ?_
   clear fr a
   intro b10 w11 hN12 B13 hb14 a fr
   have ne_bn_b10 : NE bn b10 := NE.mk (Nat.lt_of_lt_of_le Bn.lt hb14)
   have ne_b_b10 : NE b b10 := NE.mk (Nat.lt_of_lt_of_le hB.lt hb14)
   have ne_S_b10 : NE S b10 := NE.mk (Nat.lt_of_lt_of_le hS.lt hb14)
   have ap_FpR_b10 : ¬ FpR b10 := hR.apart hb14
   have g_b10 := Nat.le_trans hF.size hb14
   replace Bn := Bn.new hN12
   replace hB := hB.new hN12
   replace hS := hS.new hN12
   replace hR := hR.new hN12
   replace hF := hF.trNew hN12
   refine fx_storeS sz39 rfl rfl rfl (fr.ev rfl) (fr.ev rfl) (lnE.all _) B13 (lnE.size _) (lnE.size _) fun w15 hO16 hBq => ?_
   replace Bn := Bn.only hO16 (by first | exact ne_bn_b10 | exact ne_b10_bn.symm | (show ¬ bn = b10; omega))
   replace hB := hB.only hO16 (by first | exact ne_b_b10 | exact ne_b10_b.symm | (show ¬ b = b10; omega))
   replace hS := hS.only hO16 (by first | exact ne_S_b10 | exact ne_b10_S.symm | (show ¬ S = b10; omega))
   replace hR := hR.only hO16 (ne1P ap_FpR_b10)
   replace hF := hF.loc hO16 (.inr g_b10)
   replace B13 := hBq
   clear hBq
   refine wpList_nil ?_
   refine fx_next ?_
   refine wp_seq ?_
   refine fxi_region ?_
   refine fxi_val (v := .func (.yield y) #[] #[]) fr rfl rfl (by decide) (x_move rfl (fr.ev rfl)) ?_
   clear fr a; intro a fr
   refine fxi_val (v := .agg (lnE.arr (rl.getD j ln0))) fr rfl rfl (by decide) (x_loadE (E := lnE) ag39 rfl rfl (fr.ev rfl) (B13.rangeE lnE)) ?_
   clear fr a; intro a fr
   refine fxi_yield (n := 8) fr rfl rfl (by decide) rfl (fr.ev rfl) (fr.ev rfl) (hY _ (rl.getD j ln0) _ (AbidesFrom.new hJ hj hF) (allQ_lt hrl (by omega) (by omega))) (fun w17 hy18 a fr => ?_) (fun w17 hy18 a fr => ?_)
   ·skip
    skip
    obtain ⟨hj, hk⟩ := hy18
    replace Bn := Bn.only hk hS_bn
    replace hB := hB.only hk (hS_F _ hFb)
    replace hS := hS.only hk (hS_F _ hFS)
    replace hR := hR.only hk (fun g hg => hS_F g ((hP.foot g).2 (.inr (.inr hg))))
    refine fxi_val (v := .bool false) fr rfl rfl (by decide) (x_not rfl (fr.ev rfl) rfl) ?_
    clear fr a; intro a fr
    refine wpListIn_nil ?_
    refine fx_next ?_
    refine fx_cond_f fr rfl ?_
    refine wp_skip ?_
    refine fx_blk ?_
    refine fx_next ?_
    refine wp_region_lit ?_
    refine fx_val (v := .int .i64 ((j + 1 : Nat) : Int)) fr rfl rfl (by decide) (x_add rfl (fr.ev rfl) rfl (i64w (r := ((j + 1 : Nat) : Int)) (by omega) (by omega))) ?_
    clear fr a; intro a fr
    refine fx_val (v := .int .i64 ((j + 1 : Nat) : Int)) fr rfl rfl (by decide) (x_move rfl (fr.ev rfl)) ?_
    clear fr a; intro a fr
    refine wpList_nil ?_
    refine fx_next ?_
    exact ⟨_, by omega, (j + 1), rfl, fr.sub ⟨rfl, rfl, rfl, rfl, rfl, rfl, rfl, rfl, trivial⟩, Bn, hB, hS, hR, (by rw [take_snoc (by omega), ← List.append_assoc]; exact hj), by omega⟩
   ·skip
    skip
    have hx := hy18
    refine fxi_val (v := .bool true) fr rfl rfl (by decide) (x_not rfl (fr.ev rfl) rfl) ?_
    clear fr a; intro a fr
    refine wpListIn_nil ?_
    refine fx_next ?_
    refine fx_cond_t fr rfl ?_
    refine wp_exit ?_
    refine fx_xb (by decide) ?_
    refine fx_xt ?_
    refine fx_xt ?_
    refine fx_xb (by decide) ?_
    refine fx_xb (by decide) ?_
    refine fx_xt ?_
    refine fx_xt ?_
    refine fx_xx ?_
    refine fx_sn ?_
    refine fx_end fr [] [] rfl trivial rfl ?_
    exact ⟨⟨_, rfl⟩, .inr ⟨_, (by rw [List.append_assoc, ← take_snoc (by omega)]; exact allQ_prefix hrl (by omega) _), hx⟩⟩
  ·skip
   have hc6 := of_decide_eq_false hc6
   refine wp_exit ?_
   refine fx_xt ?_
   refine fx_xt ?_
   refine fx_xx ?_
   refine fx_blk ?_
   refine fx_next ?_
   refine wp_region_lit ?_
   refine fx_val (v := .int .i64 ((i + 1 : Nat) : Int)) fr rfl rfl (by decide) (x_add rfl (fr.ev rfl) rfl (i64w (r := ((i + 1 : Nat) : Int)) (by omega) (by omega))) ?_
   clear fr a; intro a fr
   refine fx_val (v := .int .i64 ((i + 1 : Nat) : Int)) fr rfl rfl (by decide) (x_move rfl (fr.ev rfl)) ?_
   clear fr a; intro a fr
   refine wpList_nil ?_
   refine fx_next ?_
   exact ⟨_, by omega, (i + 1), rfl, fr.sub ⟨rfl, rfl, rfl, rfl, rfl, trivial⟩, Bn, hB, hS, hR, (by rw [allP_succ, ← hrl]; rw [List.take_of_length_le (by omega)] at hj; exact hj), by omega⟩
 ·skip
  have hc3 := of_decide_eq_false hc3
  refine wp_exit ?_
  refine fx_xt ?_
  refine fx_xt ?_
  refine fx_xx ?_
  refine fx_sn ?_
  refine fx_end fr [] [] rfl trivial rfl ?_
  exact ⟨⟨_, rfl⟩, .inl ⟨_, (by rw [show i = n by omega]; exact allP_end), hj⟩⟩
theorem all_c {w : World} {Fp : Nat → Prop} {b n : Nat} {ways : Int} {L : List Ln} (H : LinesAt w Fp b n ways L) : Calls Try.prog 69 #[.pointer (some ⟨b, 0, none⟩)] w (Ret fun v w' => ∃ bn b' Fp', v = .func (.func 82) #[] #[.pointer (some ⟨bn, 0, none⟩)] ∧ Blk w' bn 79 #[.pointer (some ⟨b', 0, none⟩)] ∧ LinesAt w' Fp' b' n ways L ∧ w.heap.size ≤ bn ∧ (∀ g, Fp' g → w.heap.size ≤ g) ∧ ¬ Fp' bn ∧ New w w') := by
 have hF := Only.refl (fun _ => False) w
 refine Zen 6 Try.func69 ?_
 refine Zsr ?_
 refine Znb (cs := #[.pointer (some ⟨b, 0, none⟩)]) fun b1 w2 hN3 B4 hb5 => ?_
 have g_b1 := hF.sz hb5
 refine Zan ?_
 refine Zsr ?_
 refine Zd pl79 (B4.cell 0 rfl) ?_
 replace H := H.new hN3
 refine Zk cf67 (copy_c H) ?_
 rintro v w10 ⟨b6, Fp7, rfl, H8, hb9, hN11⟩
 have ap_Fp7_b1 : ¬ Fp7 b1 := new_apartP hb9 B4.lt
 replace hF := hF.trNew hN3
 have gA_Fp7 := gA_newP hF hb9
 replace B4 := B4.new hN11
 refine Zs1 (cs' := #[.pointer (some ⟨b6, 0, none⟩)]) sz79 B4 (show 0 < 1 by decide) rfl fun w12 hO13 B4 => ?_
 refine Znn ?_
 refine Zsr ?_
 refine Zv _ (fun _ fr => x_makeFunc (vs := [.pointer (some ⟨b1, 0, none⟩)]) rfl ⟨(fr.ev rfl), trivial⟩) ?_
 refine Zar ?_
 refine Zre rfl [_] ⟨rfl, trivial⟩ ?_
 replace hF := (hF.trNew hN11).loc hO13 (.inr g_b1)
 replace H8 := H8.only hO13 (ne1P ap_Fp7_b1)
 exact ⟨_, rfl, b1, b6, Fp7, rfl, B4, H8, g_b1, (fun g hg => (gA_Fp7 g hg).resolve_left id), ap_Fp7_b1, hF⟩
end Go.Proofs.Ytflnlmibkbojcaa
namespace Go.Proofs.Ytflnlmibkbojcaa
open Go.RowKit
structure Msg where
  kind : Int
  src : Int
  dst : Int
  line : Int
  bs : B16
  hn : 0 ≤ line ∧ line < 4294967296
def Msg.cells (m : Msg) : List Value := .int .i64 m.kind :: .int .i64 m.src :: .int .i64 m.dst :: .int .u32 m.line :: m.bs.1.map (Value.int .u8)
theorem Msg.eq_iff (m m' : Msg) : m = m' ↔ m.kind = m'.kind ∧ m.src = m'.src ∧ m.dst = m'.dst ∧ m.line = m'.line ∧ m.bs.1 = m'.bs.1 := by
  constructor
  · rintro rfl; simp
  · rintro ⟨h1, h2, h3, h4, h5⟩
    cases m; cases m'
    simp only [Msg.mk.injEq]
    exact ⟨h1, h2, h3, h4, Subtype.ext h5⟩
instance : DecidableEq Msg := fun s t => decidable_of_iff _ (Msg.eq_iff s t).symm
theorem Msg.len (m : Msg) : m.cells.length = 20 := by simp [Msg.cells, m.bs.2]
theorem Msg.one (m : Msg) : ∀ v ∈ m.cells, v.oneCell' = true := by
  intro v hv
  simp only [Msg.cells, List.mem_cons, List.mem_map] at hv
  rcases hv with rfl | rfl | rfl | rfl | ⟨a, _, rfl⟩ <;> rfl
def msgE : Enc Try.prog Msg where
  T := 35
  n := 20
  cells := Msg.cells
  len := Msg.len
  one := Msg.one
  pos := by decide
def msg0 : Msg := ⟨0, 0, 0, 0, b16z, by decide⟩
def bs0 : B16 := b16z
def mkM (k s d l : Int) (b : B16 := b16z) (h : 0 ≤ l ∧ l < 4294967296 := by omega) : Msg := ⟨k, s, d, l, b, h⟩
def b16c (b : B16) : List Value := b.1.map (Value.int .u8)
def bsE : Enc Try.prog B16 where
  T := 22
  n := 16
  cells := b16c
  len := fun b => by simp [b16c, b.2.1]
  one := fun b v hv => by
    obtain ⟨a, _, rfl⟩ := List.mem_map.1 hv
    rfl
  pos := by decide
theorem bsER : bsE.Rec where
  eq := fun w x y => by
    have h := run_equal_arr (P := Try.prog) w Try.underlying22 Try.underlying5 sizeU8 x.1 y.1 x.2.1 y.2.1
    refine (show _ = _ from h).trans ?_
    rw [show decide (x.1 = y.1) = decide (x = y) from decide_eq_decide.2 Subtype.ext_iff.symm]
  calm := by kernel_rfl
theorem msg_bs (m : Msg) : ((msgE.arr m).toList.drop 4).take 16 = bsE.cells m.bs := by
  rw [msgE.toList]
  show (m.cells.drop 4).take 16 = b16c m.bs
  unfold Msg.cells b16c
  simp only [List.drop_succ_cons, List.drop_zero]
  exact List.take_of_length_le (by simp [m.bs.2.1])
theorem ln_bs (m : Ln) : ((lnE.arr m).toList.drop 2).take 16 = bsE.cells m.bs := by
  rw [lnE.toList]
  show (m.cells.drop 2).take 16 = b16c m.bs
  unfold Ln.cells b16c
  simp only [List.drop_succ_cons, List.drop_zero]
  exact List.take_of_length_le (by simp [m.bs.2.1])
theorem elMsg : ElemI msgE 29 48 := ⟨Try.underlying29, by
  obtain ⟨i0, hi, hz0, hz1, hz2⟩ := info_parts (show (Try.prog.info? 35).map (fun i => (i.zero, i.size, i.bytes)) = some (some (.agg (msgE.arr msg0)), 20, 48) by kernel_rfl)
  exact ⟨i0, _, hi, hz0, hz1, hz2, by rw [show (Value.agg (msgE.arr msg0)).cells = msgE.arr msg0 from rfl, msgE.size]⟩⟩
def isCache (n : Int) : Bool := decide (0 ≤ n) && decide (n ≤ 3)
def homeK (k : Int) : Bool := decide (k = 1) || decide (k = 2) || decide (k = 3) || decide (k = 11) || decide (k = 12) || decide (k = 13)
def cacheK (k : Int) : Bool := decide (k = 4) || decide (k = 5) || decide (k = 6) || decide (k = 7) || decide (k = 8) || decide (k = 9) || decide (k = 10)
def bytesK (k : Int) : Bool := decide (k = 3) || decide (k = 11) || decide (k = 8) || decide (k = 9) || decide (k = 10)
def goodMsg (m : Msg) : Bool := ((homeK m.kind && decide (m.dst = 4) && isCache m.src) || (cacheK m.kind && decide (m.src = 4) && isCache m.dst)) && (bytesK m.kind || decide (m.bs = bs0))
def chk (m : Msg) : Int := if goodMsg m then 0 else 2
theorem home_not (k : Int) (h : homeK k = true) : cacheK k = false := by
  simp [homeK, cacheK] at *
  omega
def isK (k : Int) : Bool := decide (1 ≤ k) && decide (k ≤ 13)
theorem isK_iff (k : Int) : isK k = (homeK k || cacheK k) := by
  rw [Bool.eq_iff_iff]
  simp [isK, homeK, cacheK]
  omega
def wantsEs : Array MapEntry := #[⟨.int .i64 1, .agg #[.bool true, .bool false], 0⟩, ⟨.int .i64 2, .agg #[.bool true, .bool false], 1⟩, ⟨.int .i64 3, .agg #[.bool true, .bool true], 2⟩, ⟨.int .i64 11, .agg #[.bool true, .bool true], 3⟩,
  ⟨.int .i64 12, .agg #[.bool true, .bool false], 4⟩, ⟨.int .i64 13, .agg #[.bool true, .bool false], 5⟩, ⟨.int .i64 4, .agg #[.bool false, .bool false], 6⟩, ⟨.int .i64 5, .agg #[.bool false, .bool false], 7⟩, ⟨.int .i64 6, .agg #[.bool false, .bool false], 8⟩,
  ⟨.int .i64 7, .agg #[.bool false, .bool false], 9⟩, ⟨.int .i64 8, .agg #[.bool false, .bool true], 10⟩, ⟨.int .i64 9, .agg #[.bool false, .bool true], 11⟩, ⟨.int .i64 10, .agg #[.bool false, .bool true], 12⟩]
theorem wants_find (k : Int) : (Instr.findNow (.int .i64) (.int .i64 k) wantsEs.toList 0).map (fun q => (match q with | some (_, u) => u | none => .agg #[.bool false, .bool false], q.isSome)) = some (.agg #[.bool (homeK k), .bool (bytesK k)], isK k) := by
  by_cases h : k = 1 ∨ k = 2 ∨ k = 3 ∨ k = 4 ∨ k = 5 ∨ k = 6 ∨ k = 7 ∨ k = 8 ∨ k = 9 ∨ k = 10 ∨ k = 11 ∨ k = 12 ∨ k = 13
  · rcases h with rfl | rfl | rfl | rfl | rfl | rfl | rfl | rfl | rfl | rfl | rfl | rfl | rfl <;> rfl
  · have e1 : isK k = false := by simp [isK]; omega
    have e2 : homeK k = false := by simp [homeK]; omega
    have e3 : bytesK k = false := by simp [bytesK]; omega
    rw [e1, e2, e3]
    have hn : ∀ c : Int, c = 1 ∨ c = 2 ∨ c = 3 ∨ c = 4 ∨ c = 5 ∨ c = 6 ∨ c = 7 ∨ c = 8 ∨ c = 9 ∨ c = 10 ∨ c = 11 ∨ c = 12 ∨ c = 13 → (k == c) = false := by
      intro c hc
      simp
      omega
    simp [wantsEs, Instr.findNow, Instr.sameNow, hn]
end Go.Proofs.Ytflnlmibkbojcaa
namespace Go.Proofs.Ytflnlmibkbojcaa
open Go.RowKit
theorem wants_c (w : World) : Calls Try.prog 77 #[] w (Ret fun v w' => ∃ r, v = .map (some r) ∧ w.heap.size ≤ r ∧ MapBlk w' r wantsEs 13 ∧ New w w') := by
 have hF := Only.refl (fun _ => False) w
 refine Zen 16 Try.func77 ?_
 refine Zsr ?_
 refine Zan ?_
 refine Zsr ?_
 intro a fr
 refine fx_makeMap fr rfl rfl rfl (by first | decide | simp) ?_
 clear fr a
 intro r1 w2 hN3 M4 hb5
 have g_r1 := hF.sz hb5
 refine Zv (.agg (#[.bool true, .bool false])) (fun _ _ => x_build (cells := #[.bool true, .bool false]) rfl (by kernel_rfl)) ?_
 intro a fr
 refine fx_insert (es' := #[⟨.int .i64 1, .agg (#[.bool true, .bool false]), 0⟩]) Try.underlying158 Try.underlying33 rfl rfl rfl (fr.ev rfl) rfl (fr.ev rfl) M4 rfl rfl fun w6 hO7 hBq => ?_
 revert a
 replace M4 := hBq
 clear hBq
 refine Zv (.agg (#[.bool true, .bool false])) (fun _ _ => x_build (cells := #[.bool true, .bool false]) rfl (by kernel_rfl)) ?_
 intro a fr
 refine fx_insert (es' := #[⟨.int .i64 1, .agg (#[.bool true, .bool false]), 0⟩, ⟨.int .i64 2, .agg (#[.bool true, .bool false]), 1⟩]) Try.underlying158 Try.underlying33 rfl rfl rfl (fr.ev rfl) rfl (fr.ev rfl) M4 rfl rfl fun w8 hO9 hBq => ?_
 revert a
 replace M4 := hBq
 clear hBq
 refine Zv (.agg (#[.bool true, .bool true])) (fun _ _ => x_build (cells := #[.bool true, .bool true]) rfl (by kernel_rfl)) ?_
 intro a fr
 refine fx_insert (es' := #[⟨.int .i64 1, .agg (#[.bool true, .bool false]), 0⟩, ⟨.int .i64 2, .agg (#[.bool true, .bool false]), 1⟩, ⟨.int .i64 3, .agg (#[.bool true, .bool true]), 2⟩]) Try.underlying158 Try.underlying33 rfl rfl rfl (fr.ev rfl) rfl (fr.ev rfl) M4 rfl rfl fun w10 hO11 hBq => ?_
 revert a
 replace M4 := hBq
 clear hBq
 refine Zv (.agg (#[.bool true, .bool true])) (fun _ _ => x_build (cells := #[.bool true, .bool true]) rfl (by kernel_rfl)) ?_
 intro a fr
 refine fx_insert (es' := #[⟨.int .i64 1, .agg (#[.bool true, .bool false]), 0⟩, ⟨.int .i64 2, .agg (#[.bool true, .bool false]), 1⟩, ⟨.int .i64 3, .agg (#[.bool true, .bool true]), 2⟩, ⟨.int .i64 11, .agg (#[.bool true, .bool true]), 3⟩]) Try.underlying158 Try.underlying33 rfl rfl rfl (fr.ev rfl) rfl (fr.ev rfl) M4 rfl rfl fun w12 hO13 hBq => ?_
 revert a
 replace M4 := hBq
 clear hBq
 refine Zv (.agg (#[.bool true, .bool false])) (fun _ _ => x_build (cells := #[.bool true, .bool false]) rfl (by kernel_rfl)) ?_
 intro a fr
 refine fx_insert (es' := #[⟨.int .i64 1, .agg (#[.bool true, .bool false]), 0⟩, ⟨.int .i64 2, .agg (#[.bool true, .bool false]), 1⟩, ⟨.int .i64 3, .agg (#[.bool true, .bool true]), 2⟩, ⟨.int .i64 11, .agg (#[.bool true, .bool true]), 3⟩, ⟨.int .i64 12, .agg (#[.bool true, .bool false]), 4⟩]) Try.underlying158 Try.underlying33 rfl rfl rfl (fr.ev rfl) rfl (fr.ev rfl) M4 rfl rfl fun w14 hO15 hBq => ?_
 revert a
 replace M4 := hBq
 clear hBq
 refine Zv (.agg (#[.bool true, .bool false])) (fun _ _ => x_build (cells := #[.bool true, .bool false]) rfl (by kernel_rfl)) ?_
 intro a fr
 refine fx_insert (es' := #[⟨.int .i64 1, .agg (#[.bool true, .bool false]), 0⟩, ⟨.int .i64 2, .agg (#[.bool true, .bool false]), 1⟩, ⟨.int .i64 3, .agg (#[.bool true, .bool true]), 2⟩, ⟨.int .i64 11, .agg (#[.bool true, .bool true]), 3⟩, ⟨.int .i64 12, .agg (#[.bool true, .bool false]), 4⟩, ⟨.int .i64 13, .agg (#[.bool true, .bool false]), 5⟩]) Try.underlying158 Try.underlying33 rfl rfl rfl (fr.ev rfl) rfl (fr.ev rfl) M4 rfl rfl fun w16 hO17 hBq => ?_
 revert a
 replace M4 := hBq
 clear hBq
 refine Zv (.agg (#[.bool false, .bool false])) (fun _ _ => x_build (cells := #[.bool false, .bool false]) rfl (by kernel_rfl)) ?_
 intro a fr
 refine fx_insert (es' := #[⟨.int .i64 1, .agg (#[.bool true, .bool false]), 0⟩, ⟨.int .i64 2, .agg (#[.bool true, .bool false]), 1⟩, ⟨.int .i64 3, .agg (#[.bool true, .bool true]), 2⟩, ⟨.int .i64 11, .agg (#[.bool true, .bool true]), 3⟩, ⟨.int .i64 12, .agg (#[.bool true, .bool false]), 4⟩, ⟨.int .i64 13, .agg (#[.bool true, .bool false]), 5⟩, ⟨.int .i64 4, .agg (#[.bool false, .bool false]), 6⟩]) Try.underlying158 Try.underlying33 rfl rfl rfl (fr.ev rfl) rfl (fr.ev rfl) M4 rfl rfl fun w18 hO19 hBq => ?_
 revert a
 replace M4 := hBq
 clear hBq
 refine Zv (.agg (#[.bool false, .bool false])) (fun _ _ => x_build (cells := #[.bool false, .bool false]) rfl (by kernel_rfl)) ?_
 intro a fr
 refine fx_insert (es' := #[⟨.int .i64 1, .agg (#[.bool true, .bool false]), 0⟩, ⟨.int .i64 2, .agg (#[.bool true, .bool false]), 1⟩, ⟨.int .i64 3, .agg (#[.bool true, .bool true]), 2⟩, ⟨.int .i64 11, .agg (#[.bool true, .bool true]), 3⟩, ⟨.int .i64 12, .agg (#[.bool true, .bool false]), 4⟩, ⟨.int .i64 13, .agg (#[.bool true, .bool false]), 5⟩, ⟨.int .i64 4, .agg (#[.bool false, .bool false]), 6⟩, ⟨.int .i64 5, .agg (#[.bool false, .bool false]), 7⟩]) Try.underlying158 Try.underlying33 rfl rfl rfl (fr.ev rfl) rfl (fr.ev rfl) M4 rfl rfl fun w20 hO21 hBq => ?_
 revert a
 replace M4 := hBq
 clear hBq
 refine Zv (.agg (#[.bool false, .bool false])) (fun _ _ => x_build (cells := #[.bool false, .bool false]) rfl (by kernel_rfl)) ?_
 intro a fr
 refine fx_insert (es' := #[⟨.int .i64 1, .agg (#[.bool true, .bool false]), 0⟩, ⟨.int .i64 2, .agg (#[.bool true, .bool false]), 1⟩, ⟨.int .i64 3, .agg (#[.bool true, .bool true]), 2⟩, ⟨.int .i64 11, .agg (#[.bool true, .bool true]), 3⟩, ⟨.int .i64 12, .agg (#[.bool true, .bool false]), 4⟩, ⟨.int .i64 13, .agg (#[.bool true, .bool false]), 5⟩, ⟨.int .i64 4, .agg (#[.bool false, .bool false]), 6⟩, ⟨.int .i64 5, .agg (#[.bool false, .bool false]), 7⟩, ⟨.int .i64 6, .agg (#[.bool false, .bool false]), 8⟩]) Try.underlying158 Try.underlying33 rfl rfl rfl (fr.ev rfl) rfl (fr.ev rfl) M4 rfl rfl fun w22 hO23 hBq => ?_
 revert a
 replace M4 := hBq
 clear hBq
 refine Zv (.agg (#[.bool false, .bool false])) (fun _ _ => x_build (cells := #[.bool false, .bool false]) rfl (by kernel_rfl)) ?_
 intro a fr
 refine fx_insert (es' := #[⟨.int .i64 1, .agg (#[.bool true, .bool false]), 0⟩, ⟨.int .i64 2, .agg (#[.bool true, .bool false]), 1⟩, ⟨.int .i64 3, .agg (#[.bool true, .bool true]), 2⟩, ⟨.int .i64 11, .agg (#[.bool true, .bool true]), 3⟩, ⟨.int .i64 12, .agg (#[.bool true, .bool false]), 4⟩, ⟨.int .i64 13, .agg (#[.bool true, .bool false]), 5⟩, ⟨.int .i64 4, .agg (#[.bool false, .bool false]), 6⟩, ⟨.int .i64 5, .agg (#[.bool false, .bool false]), 7⟩, ⟨.int .i64 6, .agg (#[.bool false, .bool false]), 8⟩, ⟨.int .i64 7, .agg (#[.bool false, .bool false]), 9⟩]) Try.underlying158 Try.underlying33 rfl rfl rfl (fr.ev rfl) rfl (fr.ev rfl) M4 rfl rfl fun w24 hO25 hBq => ?_
 revert a
 replace M4 := hBq
 clear hBq
 refine Zv (.agg (#[.bool false, .bool true])) (fun _ _ => x_build (cells := #[.bool false, .bool true]) rfl (by kernel_rfl)) ?_
 intro a fr
 refine fx_insert (es' := #[⟨.int .i64 1, .agg (#[.bool true, .bool false]), 0⟩, ⟨.int .i64 2, .agg (#[.bool true, .bool false]), 1⟩, ⟨.int .i64 3, .agg (#[.bool true, .bool true]), 2⟩, ⟨.int .i64 11, .agg (#[.bool true, .bool true]), 3⟩, ⟨.int .i64 12, .agg (#[.bool true, .bool false]), 4⟩, ⟨.int .i64 13, .agg (#[.bool true, .bool false]), 5⟩, ⟨.int .i64 4, .agg (#[.bool false, .bool false]), 6⟩, ⟨.int .i64 5, .agg (#[.bool false, .bool false]), 7⟩, ⟨.int .i64 6, .agg (#[.bool false, .bool false]), 8⟩, ⟨.int .i64 7, .agg (#[.bool false, .bool false]), 9⟩, ⟨.int .i64 8, .agg (#[.bool false, .bool true]), 10⟩]) Try.underlying158 Try.underlying33 rfl rfl rfl (fr.ev rfl) rfl (fr.ev rfl) M4 rfl rfl fun w26 hO27 hBq => ?_
 revert a
 replace M4 := hBq
 clear hBq
 refine Zv (.agg (#[.bool false, .bool true])) (fun _ _ => x_build (cells := #[.bool false, .bool true]) rfl (by kernel_rfl)) ?_
 intro a fr
 refine fx_insert (es' := #[⟨.int .i64 1, .agg (#[.bool true, .bool false]), 0⟩, ⟨.int .i64 2, .agg (#[.bool true, .bool false]), 1⟩, ⟨.int .i64 3, .agg (#[.bool true, .bool true]), 2⟩, ⟨.int .i64 11, .agg (#[.bool true, .bool true]), 3⟩, ⟨.int .i64 12, .agg (#[.bool true, .bool false]), 4⟩, ⟨.int .i64 13, .agg (#[.bool true, .bool false]), 5⟩, ⟨.int .i64 4, .agg (#[.bool false, .bool false]), 6⟩, ⟨.int .i64 5, .agg (#[.bool false, .bool false]), 7⟩, ⟨.int .i64 6, .agg (#[.bool false, .bool false]), 8⟩, ⟨.int .i64 7, .agg (#[.bool false, .bool false]), 9⟩, ⟨.int .i64 8, .agg (#[.bool false, .bool true]), 10⟩, ⟨.int .i64 9, .agg (#[.bool false, .bool true]), 11⟩]) Try.underlying158 Try.underlying33 rfl rfl rfl (fr.ev rfl) rfl (fr.ev rfl) M4 rfl rfl fun w28 hO29 hBq => ?_
 revert a
 replace M4 := hBq
 clear hBq
 refine Zv (.agg (#[.bool false, .bool true])) (fun _ _ => x_build (cells := #[.bool false, .bool true]) rfl (by kernel_rfl)) ?_
 intro a fr
 refine fx_insert (es' := #[⟨.int .i64 1, .agg (#[.bool true, .bool false]), 0⟩, ⟨.int .i64 2, .agg (#[.bool true, .bool false]), 1⟩, ⟨.int .i64 3, .agg (#[.bool true, .bool true]), 2⟩, ⟨.int .i64 11, .agg (#[.bool true, .bool true]), 3⟩, ⟨.int .i64 12, .agg (#[.bool true, .bool false]), 4⟩, ⟨.int .i64 13, .agg (#[.bool true, .bool false]), 5⟩, ⟨.int .i64 4, .agg (#[.bool false, .bool false]), 6⟩, ⟨.int .i64 5, .agg (#[.bool false, .bool false]), 7⟩, ⟨.int .i64 6, .agg (#[.bool false, .bool false]), 8⟩, ⟨.int .i64 7, .agg (#[.bool false, .bool false]), 9⟩, ⟨.int .i64 8, .agg (#[.bool false, .bool true]), 10⟩, ⟨.int .i64 9, .agg (#[.bool false, .bool true]), 11⟩, ⟨.int .i64 10, .agg (#[.bool false, .bool true]), 12⟩]) Try.underlying158 Try.underlying33 rfl rfl rfl (fr.ev rfl) rfl (fr.ev rfl) M4 rfl rfl fun w30 hO31 hBq => ?_
 revert a
 replace M4 := hBq
 clear hBq
 refine Zm ?_
 refine Zar ?_
 refine Zre rfl [_] ⟨rfl, trivial⟩ ?_
 replace hF := (((((((((((((hF.trNew hN3).loc hO7 (.inr g_r1)).loc hO9 (.inr g_r1)).loc hO11 (.inr g_r1)).loc hO13 (.inr g_r1)).loc hO15 (.inr g_r1)).loc hO17 (.inr g_r1)).loc hO19 (.inr g_r1)).loc hO21 (.inr g_r1)).loc hO23 (.inr g_r1)).loc hO25 (.inr g_r1)).loc hO27 (.inr g_r1)).loc hO29 (.inr g_r1)).loc hO31 (.inr g_r1)
 exact ⟨_, rfl, _, rfl, g_r1, M4, hF⟩
def zv2 : Value := .agg (#[.bool false, .bool false])
theorem chk_c (m : Msg) (w : World) : Calls Try.prog 48 #[.agg (msgE.arr m)] w (Ret fun v w' => v = .int .i64 (chk m) ∧ New w w') := by
 have hF := Only.refl (fun _ => False) w
 refine Zen 53 Try.func48 ?_
 refine Zsr ?_
 refine Znb (cs := msgE.arr m) fun b1 w2 hN3 B4 hb5 => ?_
 refine Zan ?_
 intro a fr
 refine fx_join (fun a wJ => ∃ r8 : Nat, ∃ b13 : Nat, Fr (53, []) [(1, .pointer (some ⟨b1, 0, none⟩)), (2, .int .i64 0), (3, .pointer (some ⟨b13, 0, none⟩)), (4, .bool (isK m.kind))] a ∧ Only (fun _ => False) w wJ ∧ Blk wJ b1 35 (msgE.arr m) ∧ MapBlk wJ r8 wantsEs 13 ∧ Blk wJ b13 156 (#[.bool (homeK m.kind), .bool (bytesK m.kind)]) ∧ (NE b1 r8) ∧ (NE b13 r8) ∧ (w.heap.size ≤ r8) ∧ (NE b1 b13) ∧ (w.heap.size ≤ b13)) ?_ ?_
 ·revert a
  refine ZhT (n := 9) 9 (fun w => Blk w b1 35 (msgE.arr m) ∧ True) ?_
  intro w6 hN7
  replace B4 := B4.new hN7
  have hS9 := And.intro B4 trivial
  refine Zhf 1 fo35_0 hS9 ?_
  refine Zhl (v := .int .i64 m.kind) 2 pl33 hS9 (fun _ ⟨B4, _⟩ => (B4.cell 0 rfl)) ?_
  refine Zh2 0 7 ?_ ?_
  ·refine Zk cf77 (wants_c _) ?_
   rintro v w11 ⟨r8, rfl, hr10, M9, hN12⟩
   have ne_b1_r8 := nelt B4.lt hr10
   replace hF := (hF.trNew hN3).trNew hN7
   have g_r8 := hF.sz hr10
   replace B4 := B4.new hN12
   refine Zhb ⟨B4, trivial⟩ ?_
   refine Zh2 3 7 ?_ ?_
   ·refine Zv (.tuple #[.agg (#[.bool (homeK m.kind), .bool (bytesK m.kind)]), .bool (isK m.kind)]) (fun _ fr => x_lookup (k := .i64) (ok := true) (v := .agg (#[.bool (homeK m.kind), .bool (bytesK m.kind)])) (b := (isK m.kind)) Try.underlying158 Try.underlying33 rfl (fr.ev rfl) (fr.ev rfl) M9 (z := .agg (#[.bool false, .bool false])) (by kernel_rfl) (wants_find _)) ?_
    refine Zhb ⟨B4, trivial⟩ ?_
    have hS9 := And.intro B4 trivial
    refine Zhm 4 hS9 ?_
    refine Zhx 5 hS9 ?_
    refine Zhx 6 hS9 ?_
    refine Zh1 7 ?_
    refine Zna (z := zv2) (cs := #[.bool false, .bool false]) (by kernel_rfl) fun b13 w14 hN15 B16 hb17 => ?_
    have ne_b1_b13 := nelt B4.lt hb17
    have ne_r8_b13 := nelt M9.lt hb17
    replace hF := hF.trNew hN12
    have g_b13 := hF.sz hb17
    replace B4 := B4.new hN15
    refine Zhb ⟨B4, trivial⟩ ?_
    refine Zh1 8 ?_
    refine ZsS sz156 (by simp [Value.oneCell']) B16 rfl rfl (ho := rfl) (hy := rfl) fun w18 hO19 B16 => ?_
    replace B4 := B4.only hO19 ne_b1_b13
    refine Zhb ⟨B4, trivial⟩ ?_
    refine Zhn ?_
    refine Ztl ?_
    refine Za ?_
    intro a fr
    refine wpList_nil ?_
    refine fx_next ?_
    replace M9 := (M9.new hN15).only hO19 ne_r8_b13
    replace hF := (hF.trNew hN15).loc hO19 (.inr g_b13)
    exact ⟨r8, b13, fr.sub ⟨rfl, rfl, rfl, rfl, trivial⟩, hF, B4, M9, B16, (by first | exact ne_b1_r8 | exact ne_r8_b1.symm), (by first | exact ne_b13_r8 | exact ne_r8_b13.symm), g_r8, (by first | exact ne_b1_b13 | exact ne_b13_b1.symm), g_b13⟩
   ·refine Zna (z := zv2) (cs := #[.bool false, .bool false]) (by kernel_rfl) fun b20 w21 hN22 B23 hb24 => ?_
    have ne_b1_b20 := nelt B4.lt hb24
    have ne_r8_b20 := nelt M9.lt hb24
    replace hF := hF.trNew hN12
    have g_b20 := hF.sz hb24
    replace B4 := B4.new hN22
    refine Zhb ⟨B4, trivial⟩ ?_
    refine Zh1 3 ?_
    replace M9 := M9.new hN22
    refine Zv (.tuple #[.agg (#[.bool (homeK m.kind), .bool (bytesK m.kind)]), .bool (isK m.kind)]) (fun _ fr => x_lookup (k := .i64) (ok := true) (v := .agg (#[.bool (homeK m.kind), .bool (bytesK m.kind)])) (b := (isK m.kind)) Try.underlying158 Try.underlying33 rfl (fr.ev rfl) (fr.ev rfl) M9 (z := .agg (#[.bool false, .bool false])) (by kernel_rfl) (wants_find _)) ?_
    refine Zhb ⟨B4, trivial⟩ ?_
    have hS9 := And.intro B4 trivial
    refine Zhm 4 hS9 ?_
    refine Zhx 5 hS9 ?_
    refine Zhx 6 hS9 ?_
    refine Zh1 8 ?_
    refine ZsS sz156 (by simp [Value.oneCell']) B23 rfl rfl (ho := rfl) (hy := rfl) fun w25 hO26 B23 => ?_
    replace B4 := B4.only hO26 ne_b1_b20
    refine Zhb ⟨B4, trivial⟩ ?_
    refine Zhn ?_
    refine Ztl ?_
    refine Za ?_
    intro a fr
    refine wpList_nil ?_
    refine fx_next ?_
    replace hF := (hF.trNew hN22).loc hO26 (.inr g_b20)
    replace M9 := M9.only hO26 ne_r8_b20
    exact ⟨r8, b20, fr.sub ⟨rfl, rfl, rfl, rfl, trivial⟩, hF, B4, M9, B23, (by first | exact ne_b1_r8 | exact ne_r8_b1.symm), (by first | exact ne_b20_r8 | exact ne_r8_b20.symm), g_r8, (by first | exact ne_b1_b20 | exact ne_b20_b1.symm), g_b20⟩
  ·refine Zna (z := zv2) (cs := #[.bool false, .bool false]) (by kernel_rfl) fun b27 w28 hN29 B30 hb31 => ?_
   have ne_b1_b27 := nelt B4.lt hb31
   replace hF := (hF.trNew hN3).trNew hN7
   have g_b27 := hF.sz hb31
   replace B4 := B4.new hN29
   refine Zhb ⟨B4, trivial⟩ ?_
   refine Zh1 0 ?_
   refine Zk cf77 (wants_c _) ?_
   rintro v w35 ⟨r32, rfl, hr34, M33, hN36⟩
   have ne_b1_r32 := nelt B4.lt hr34
   have ne_b27_r32 := nelt B30.lt hr34
   replace hF := hF.trNew hN29
   have g_r32 := hF.sz hr34
   replace B4 := B4.new hN36
   refine Zhb ⟨B4, trivial⟩ ?_
   refine Zh1 3 ?_
   refine Zv (.tuple #[.agg (#[.bool (homeK m.kind), .bool (bytesK m.kind)]), .bool (isK m.kind)]) (fun _ fr => x_lookup (k := .i64) (ok := true) (v := .agg (#[.bool (homeK m.kind), .bool (bytesK m.kind)])) (b := (isK m.kind)) Try.underlying158 Try.underlying33 rfl (fr.ev rfl) (fr.ev rfl) M33 (z := .agg (#[.bool false, .bool false])) (by kernel_rfl) (wants_find _)) ?_
   refine Zhb ⟨B4, trivial⟩ ?_
   have hS9 := And.intro B4 trivial
   refine Zhm 4 hS9 ?_
   refine Zhx 5 hS9 ?_
   refine Zhx 6 hS9 ?_
   refine Zh1 8 ?_
   replace B30 := B30.new hN36
   refine ZsS sz156 (by simp [Value.oneCell']) B30 rfl rfl (ho := rfl) (hy := rfl) fun w37 hO38 B30 => ?_
   replace B4 := B4.only hO38 ne_b1_b27
   refine Zhb ⟨B4, trivial⟩ ?_
   refine Zhn ?_
   refine Ztl ?_
   refine Za ?_
   intro a fr
   refine wpList_nil ?_
   refine fx_next ?_
   replace hF := (hF.trNew hN36).loc hO38 (.inr g_b27)
   replace M33 := M33.only hO38 ne_b27_r32.symm
   exact ⟨r32, b27, fr.sub ⟨rfl, rfl, rfl, rfl, trivial⟩, hF, B4, M33, B30, (by first | exact ne_b1_r32 | exact ne_r32_b1.symm), (by first | exact ne_b27_r32 | exact ne_r32_b27.symm), g_r32, (by first | exact ne_b1_b27 | exact ne_b27_b1.symm), g_b27⟩
 clear fr a
 replace hF := hF.trNew hN3
 rintro a w6 ⟨r8, b13, fr, hF, B4, M9, B16, ne_b1_r8, ne_b13_r8, g_r8, ne_b1_b13, g_b13⟩
 revert a
 refine Zsr ?_
 refine Zf fo35_2 ?_
 refine Zd (v := .int .i64 m.dst) pl3 (B4.cell 2 rfl) ?_
 refine Zaq ?_
 refine Zbl ?_
 refine Zsq ?_
 refine Zbl ?_
 refine Zsq ?_
 refine Zbl ?_
 refine Zsq ?_
 refine Zbl ?_
 refine Zsq ?_
 refine Zsq ?_
 refine Zsm ?_
 refine Zv _ (fun _ fr => x_not rfl (fr.ev rfl) rfl) ?_
 refine Zan ?_
 refine Zcd (fun hc39 => ?_) (fun hc39 => ?_)
 ·refine Zex ?_
  refine Zxt ?_
  refine Zxt ?_
  refine Zxx ?_
  refine Znx ?_
  refine Zsq ?_
  refine Zsr ?_
  refine Zar ?_
  refine Zr1 ?_
  refine Zr21 ?_
  refine Zr21 ?_
  refine Zr21 ?_
  refine Zre rfl [_] ⟨rfl, trivial⟩ ?_
  exact ⟨_, rfl, congrArg (Value.int .i64) (by have hx := home_not m.kind; have hk := isK_iff m.kind; by_cases e1 : m.dst = 4 <;> by_cases e2 : m.src = 4 <;> simp_all [chk, goodMsg, isCache, bs0] <;> first | omega | (intro p q; rcases ‹(_ ∨ _) ∨ _› with (h | h) | h <;> first | omega | exact h | exact ⟨h.1, decide_eq_false h.2⟩)), hF⟩
 ·refine Zkn ?_
  refine Zsr ?_
  refine Zf fo156_0 ?_
  refine Zd (v := .bool (homeK m.kind)) pl4 (B16.cell 0 rfl) ?_
  refine Zan ?_
  refine Zcd (fun hc40 => ?_) (fun hc40 => ?_)
  ·refine Zex ?_
   refine Zxt ?_
   refine Zxb ?_
   refine Zxt ?_
   refine Zxx ?_
   refine Znx ?_
   refine Zsq ?_
   refine Zsr ?_
   refine Zf fo35_2 ?_
   refine Zd (v := .int .i64 m.dst) pl3 (B4.cell 2 rfl) ?_
   refine Zv _ (fun _ fr => x_neq rfl (fr.ev rfl) rfl rfl) ?_
   refine Znn ?_
   refine Zcd (fun hc41 => ?_) (fun hc41 => ?_)
   ·have hc41 := of_decide_eq_true hc41
    refine Zsr ?_
    refine Zar ?_
    refine Zr1 ?_
    refine Zr21 ?_
    refine Zr21 ?_
    refine Zre rfl [_] ⟨rfl, trivial⟩ ?_
    exact ⟨_, rfl, congrArg (Value.int .i64) (by have hx := home_not m.kind; have hk := isK_iff m.kind; by_cases e1 : m.dst = 4 <;> by_cases e2 : m.src = 4 <;> simp_all [chk, goodMsg, isCache, bs0] <;> first | omega | (intro p q; rcases ‹(_ ∨ _) ∨ _› with (h | h) | h <;> first | omega | exact h | exact ⟨h.1, decide_eq_false h.2⟩)), hF⟩
   ·have hc41 := of_decide_eq_false hc41
    refine Zkn ?_
    refine Zrg ?_
    refine Zf fo35_1 ?_
    refine Zd (v := .int .i64 m.src) pl3 (B4.cell 1 rfl) ?_
    refine Za ?_
    refine Znl ?_
    refine Zbn ?_
    refine Zsq ?_
    refine Zsr ?_
    refine Zf fo156_0 ?_
    refine Zd (v := .bool (homeK m.kind)) pl4 (B16.cell 0 rfl) ?_
    refine Zv _ (fun _ fr => x_not rfl (fr.ev rfl) rfl) ?_
    refine Zm ?_
    refine Zy (!(homeK m.kind)) _ (fun _ fr _ => x_fieldAddr fo35_1 rfl (fr.ev rfl) rfl) ?_
    refine Zy (!(homeK m.kind)) _ (fun _ fr hg => x_load1 pl3 rfl ((fr.ev rfl).trans (onlyIf_t hg)) (B4.cell 1 rfl)) ?_
    refine Zy (!(homeK m.kind)) _ (fun _ fr hg => x_neq rfl ((fr.ev rfl).trans (onlyIf_t hg)) rfl rfl) ?_
    refine Zv (.bool ((!(homeK m.kind)) && (decide (m.src ≠ 4)))) (fun _ fr => x_pick_and rfl (fr.ev rfl) (fun hb => ((fr.ev rfl)).trans (onlyIf_t (by simp_all))) (fun _ => rfl) rfl) ?_
    refine Zm ?_
    refine Zy (!((!(homeK m.kind)) && (decide (m.src ≠ 4)))) _ (fun _ fr _ => x_move rfl (fr.ev rfl)) ?_
    refine Zy (!((!(homeK m.kind)) && (decide (m.src ≠ 4)))) _ (fun _ fr hg => x_lss rfl ((fr.ev rfl).trans (onlyIf_t hg)) rfl rfl) ?_
    refine Zv (.bool (((!(homeK m.kind)) && (decide (m.src ≠ 4))) || (decide (m.src < 0)))) (fun _ fr => x_pick_or rfl (fr.ev rfl) (fun _ => rfl) (fun hb => ((fr.ev rfl)).trans (onlyIf_t (by simp_all))) rfl) ?_
    refine Zm ?_
    refine Zy (!(((!(homeK m.kind)) && (decide (m.src ≠ 4))) || (decide (m.src < 0)))) _ (fun _ fr _ => x_move rfl (fr.ev rfl)) ?_
    refine Zy (!(((!(homeK m.kind)) && (decide (m.src ≠ 4))) || (decide (m.src < 0)))) _ (fun _ fr hg => x_geq rfl ((fr.ev rfl).trans (onlyIf_t hg)) rfl rfl) ?_
    refine Zv (.bool ((((!(homeK m.kind)) && (decide (m.src ≠ 4))) || (decide (m.src < 0))) || (decide (4 ≤ m.src)))) (fun _ fr => x_pick_or rfl (fr.ev rfl) (fun _ => rfl) (fun hb => ((fr.ev rfl)).trans (onlyIf_t (by simp_all))) rfl) ?_
    refine Zm ?_
    refine Zy (!((((!(homeK m.kind)) && (decide (m.src ≠ 4))) || (decide (m.src < 0))) || (decide (4 ≤ m.src)))) _ (fun _ fr _ => x_fieldAddr fo156_1 rfl (fr.ev rfl) rfl) ?_
    refine Zy (!((((!(homeK m.kind)) && (decide (m.src ≠ 4))) || (decide (m.src < 0))) || (decide (4 ≤ m.src)))) _ (fun _ fr hg => x_load1 pl4 rfl ((fr.ev rfl).trans (onlyIf_t hg)) (B16.cell 1 rfl)) ?_
    refine Zy (!((((!(homeK m.kind)) && (decide (m.src ≠ 4))) || (decide (m.src < 0))) || (decide (4 ≤ m.src)))) _ (fun _ fr hg => x_not rfl ((fr.ev rfl).trans (onlyIf_t hg)) rfl) ?_
    refine Zy (!((((!(homeK m.kind)) && (decide (m.src ≠ 4))) || (decide (m.src < 0))) || (decide (4 ≤ m.src)))) _ (fun _ fr hg => x_move rfl ((fr.ev rfl).trans (onlyIf_t hg))) ?_
    intro a fr
    refine fx_may2 (g := (!((((!(homeK m.kind)) && (decide (m.src ≠ 4))) || (decide (m.src < 0))) || (decide (4 ≤ m.src)))) && (!(bytesK m.kind))) (v := .pointer (some ⟨b1, 4, none⟩)) fr rfl rfl rfl (by simp) rfl (by first | decide | simp) (fun hg => x_fieldAddr fo35_4 rfl (fr.ev rfl) rfl) ?_
    clear fr a
    intro a fr
    refine fx_may2 (g := (!((((!(homeK m.kind)) && (decide (m.src ≠ 4))) || (decide (m.src < 0))) || (decide (4 ≤ m.src)))) && (!(bytesK m.kind))) (v := .agg (bsE.arr m.bs)) fr rfl rfl rfl (by simp) rfl (by first | decide | simp) (fun hg => x_loadE (E := bsE) ag22 rfl rfl ((fr.ev rfl).trans (onlyIf_t hg)) (B4.part (msg_bs _))) ?_
    clear fr a
    intro a fr
    refine fx_may2 (g := (!((((!(homeK m.kind)) && (decide (m.src ≠ 4))) || (decide (m.src < 0))) || (decide (4 ≤ m.src)))) && (!(bytesK m.kind))) (v := .agg (bsE.arr b16z)) fr rfl rfl rfl (by simp) rfl (by first | decide | simp) (fun hg => x_build (cells := bsE.arr b16z) rfl (by kernel_rfl)) ?_
    clear fr a
    intro a fr
    refine fx_may2 (g := (!((((!(homeK m.kind)) && (decide (m.src ≠ 4))) || (decide (m.src < 0))) || (decide (4 ≤ m.src)))) && (!(bytesK m.kind))) (v := .bool (!decide (m.bs = b16z))) fr rfl rfl rfl (by simp) rfl (by first | decide | simp) (fun hg => x_neE bsER rfl rfl ((fr.ev rfl).trans (onlyIf_t hg)) ((fr.ev rfl).trans (onlyIf_t hg)) rfl) ?_
    clear fr a
    refine Zy (!((((!(homeK m.kind)) && (decide (m.src ≠ 4))) || (decide (m.src < 0))) || (decide (4 ≤ m.src)))) (.bool ((!(bytesK m.kind)) && (!decide (m.bs = b16z)))) (fun _ fr hg => x_pick_and rfl ((fr.ev rfl).trans (onlyIf_t hg)) (fun hb => ((fr.ev rfl)).trans (onlyIf_t (by simp_all))) (fun _ => rfl) rfl) ?_
    refine Zv (.bool (((((!(homeK m.kind)) && (decide (m.src ≠ 4))) || (decide (m.src < 0))) || (decide (4 ≤ m.src))) || ((!(bytesK m.kind)) && (!decide (m.bs = b16z))))) (fun _ fr => x_pick_or rfl (fr.ev rfl) (fun _ => rfl) (fun hb => ((fr.ev rfl)).trans (onlyIf_t (by simp_all))) rfl) ?_
    refine Znn ?_
    refine Zcd (fun hc42 => ?_) (fun hc42 => ?_)
    ·have hc42s := hc42
     try simp at hc42s
     refine Zsr ?_
     refine Zar ?_
     refine Zr1 ?_
     refine Zr21 ?_
     refine Zre rfl [_] ⟨rfl, trivial⟩ ?_
     exact ⟨_, rfl, congrArg (Value.int .i64) (by have hx := home_not m.kind; have hk := isK_iff m.kind; by_cases e1 : m.dst = 4 <;> by_cases e2 : m.src = 4 <;> simp_all [chk, goodMsg, isCache, bs0] <;> first | omega | (intro p q; rcases ‹(_ ∨ _) ∨ _› with (h | h) | h <;> first | omega | exact h | exact ⟨h.1, decide_eq_false h.2⟩)), hF⟩
    ·have hc42s := hc42
     try simp at hc42s
     refine Zkn ?_
     refine Zex ?_
     refine Zxx ?_
     refine Znx ?_
     refine Zsr ?_
     refine Zar ?_
     refine Zre rfl [_] ⟨rfl, trivial⟩ ?_
     exact ⟨_, rfl, congrArg (Value.int .i64) (by have hx := home_not m.kind; have hk := isK_iff m.kind; by_cases e1 : m.dst = 4 <;> by_cases e2 : m.src = 4 <;> simp_all [chk, goodMsg, isCache, bs0] <;> first | omega | (intro p q; rcases ‹(_ ∨ _) ∨ _› with (h | h) | h <;> first | omega | exact h | exact ⟨h.1, decide_eq_false h.2⟩)), hF⟩
  ·refine Zkn ?_
   refine Zex ?_
   refine Zxb ?_
   refine Zxt ?_
   refine Zxb ?_
   refine Zxt ?_
   refine Zxx ?_
   refine Znx ?_
   refine Zsq ?_
   refine Zsr ?_
   refine Zf fo156_0 ?_
   refine Zd (v := .bool (homeK m.kind)) pl4 (B16.cell 0 rfl) ?_
   refine Zv _ (fun _ fr => x_not rfl (fr.ev rfl) rfl) ?_
   refine Zm ?_
   refine Zy (!(homeK m.kind)) _ (fun _ fr _ => x_fieldAddr fo35_1 rfl (fr.ev rfl) rfl) ?_
   refine Zy (!(homeK m.kind)) _ (fun _ fr hg => x_load1 pl3 rfl ((fr.ev rfl).trans (onlyIf_t hg)) (B4.cell 1 rfl)) ?_
   refine Zy (!(homeK m.kind)) _ (fun _ fr hg => x_neq rfl ((fr.ev rfl).trans (onlyIf_t hg)) rfl rfl) ?_
   refine Zv (.bool ((!(homeK m.kind)) && (decide (m.src ≠ 4)))) (fun _ fr => x_pick_and rfl (fr.ev rfl) (fun hb => ((fr.ev rfl)).trans (onlyIf_t (by simp_all))) (fun _ => rfl) rfl) ?_
   refine Zm ?_
   refine Zy (!((!(homeK m.kind)) && (decide (m.src ≠ 4)))) _ (fun _ fr _ => x_move rfl (fr.ev rfl)) ?_
   refine Zy (!((!(homeK m.kind)) && (decide (m.src ≠ 4)))) _ (fun _ fr hg => x_lss rfl ((fr.ev rfl).trans (onlyIf_t hg)) rfl rfl) ?_
   refine Zv (.bool (((!(homeK m.kind)) && (decide (m.src ≠ 4))) || (decide (m.dst < 0)))) (fun _ fr => x_pick_or rfl (fr.ev rfl) (fun _ => rfl) (fun hb => ((fr.ev rfl)).trans (onlyIf_t (by simp_all))) rfl) ?_
   refine Zm ?_
   refine Zy (!(((!(homeK m.kind)) && (decide (m.src ≠ 4))) || (decide (m.dst < 0)))) _ (fun _ fr _ => x_move rfl (fr.ev rfl)) ?_
   refine Zy (!(((!(homeK m.kind)) && (decide (m.src ≠ 4))) || (decide (m.dst < 0)))) _ (fun _ fr hg => x_geq rfl ((fr.ev rfl).trans (onlyIf_t hg)) rfl rfl) ?_
   refine Zv (.bool ((((!(homeK m.kind)) && (decide (m.src ≠ 4))) || (decide (m.dst < 0))) || (decide (4 ≤ m.dst)))) (fun _ fr => x_pick_or rfl (fr.ev rfl) (fun _ => rfl) (fun hb => ((fr.ev rfl)).trans (onlyIf_t (by simp_all))) rfl) ?_
   refine Zm ?_
   refine Zy (!((((!(homeK m.kind)) && (decide (m.src ≠ 4))) || (decide (m.dst < 0))) || (decide (4 ≤ m.dst)))) _ (fun _ fr _ => x_fieldAddr fo156_1 rfl (fr.ev rfl) rfl) ?_
   refine Zy (!((((!(homeK m.kind)) && (decide (m.src ≠ 4))) || (decide (m.dst < 0))) || (decide (4 ≤ m.dst)))) _ (fun _ fr hg => x_load1 pl4 rfl ((fr.ev rfl).trans (onlyIf_t hg)) (B16.cell 1 rfl)) ?_
   refine Zy (!((((!(homeK m.kind)) && (decide (m.src ≠ 4))) || (decide (m.dst < 0))) || (decide (4 ≤ m.dst)))) _ (fun _ fr hg => x_not rfl ((fr.ev rfl).trans (onlyIf_t hg)) rfl) ?_
   refine Zy (!((((!(homeK m.kind)) && (decide (m.src ≠ 4))) || (decide (m.dst < 0))) || (decide (4 ≤ m.dst)))) _ (fun _ fr hg => x_move rfl ((fr.ev rfl).trans (onlyIf_t hg))) ?_
   intro a fr
   refine fx_may2 (g := (!((((!(homeK m.kind)) && (decide (m.src ≠ 4))) || (decide (m.dst < 0))) || (decide (4 ≤ m.dst)))) && (!(bytesK m.kind))) (v := .pointer (some ⟨b1, 4, none⟩)) fr rfl rfl rfl (by simp) rfl (by first | decide | simp) (fun hg => x_fieldAddr fo35_4 rfl (fr.ev rfl) rfl) ?_
   clear fr a
   intro a fr
   refine fx_may2 (g := (!((((!(homeK m.kind)) && (decide (m.src ≠ 4))) || (decide (m.dst < 0))) || (decide (4 ≤ m.dst)))) && (!(bytesK m.kind))) (v := .agg (bsE.arr m.bs)) fr rfl rfl rfl (by simp) rfl (by first | decide | simp) (fun hg => x_loadE (E := bsE) ag22 rfl rfl ((fr.ev rfl).trans (onlyIf_t hg)) (B4.part (msg_bs _))) ?_
   clear fr a
   intro a fr
   refine fx_may2 (g := (!((((!(homeK m.kind)) && (decide (m.src ≠ 4))) || (decide (m.dst < 0))) || (decide (4 ≤ m.dst)))) && (!(bytesK m.kind))) (v := .agg (bsE.arr b16z)) fr rfl rfl rfl (by simp) rfl (by first | decide | simp) (fun hg => x_build (cells := bsE.arr b16z) rfl (by kernel_rfl)) ?_
   clear fr a
   intro a fr
   refine fx_may2 (g := (!((((!(homeK m.kind)) && (decide (m.src ≠ 4))) || (decide (m.dst < 0))) || (decide (4 ≤ m.dst)))) && (!(bytesK m.kind))) (v := .bool (!decide (m.bs = b16z))) fr rfl rfl rfl (by simp) rfl (by first | decide | simp) (fun hg => x_neE bsER rfl rfl ((fr.ev rfl).trans (onlyIf_t hg)) ((fr.ev rfl).trans (onlyIf_t hg)) rfl) ?_
   clear fr a
   refine Zy (!((((!(homeK m.kind)) && (decide (m.src ≠ 4))) || (decide (m.dst < 0))) || (decide (4 ≤ m.dst)))) (.bool ((!(bytesK m.kind)) && (!decide (m.bs = b16z)))) (fun _ fr hg => x_pick_and rfl ((fr.ev rfl).trans (onlyIf_t hg)) (fun hb => ((fr.ev rfl)).trans (onlyIf_t (by simp_all))) (fun _ => rfl) rfl) ?_
   refine Zv (.bool (((((!(homeK m.kind)) && (decide (m.src ≠ 4))) || (decide (m.dst < 0))) || (decide (4 ≤ m.dst))) || ((!(bytesK m.kind)) && (!decide (m.bs = b16z))))) (fun _ fr => x_pick_or rfl (fr.ev rfl) (fun _ => rfl) (fun hb => ((fr.ev rfl)).trans (onlyIf_t (by simp_all))) rfl) ?_
   refine Znn ?_
   refine Zcd (fun hc43 => ?_) (fun hc43 => ?_)
   ·have hc43s := hc43
    try simp at hc43s
    refine Zsr ?_
    refine Zar ?_
    refine Zr1 ?_
    refine Zr21 ?_
    refine Zre rfl [_] ⟨rfl, trivial⟩ ?_
    exact ⟨_, rfl, congrArg (Value.int .i64) (by have hx := home_not m.kind; have hk := isK_iff m.kind; by_cases e1 : m.dst = 4 <;> by_cases e2 : m.src = 4 <;> simp_all [chk, goodMsg, isCache, bs0] <;> first | omega | (intro p q; rcases ‹(_ ∨ _) ∨ _› with (h | h) | h <;> first | omega | exact h | exact ⟨h.1, decide_eq_false h.2⟩)), hF⟩
   ·have hc43s := hc43
    try simp at hc43s
    refine Zkn ?_
    refine Zex ?_
    refine Zxx ?_
    refine Znx ?_
    refine Zsr ?_
    refine Zar ?_
    refine Zre rfl [_] ⟨rfl, trivial⟩ ?_
    exact ⟨_, rfl, congrArg (Value.int .i64) (by have hx := home_not m.kind; have hk := isK_iff m.kind; by_cases e1 : m.dst = 4 <;> by_cases e2 : m.src = 4 <;> simp_all [chk, goodMsg, isCache, bs0] <;> first | omega | (intro p q; rcases ‹(_ ∨ _) ∨ _› with (h | h) | h <;> first | omega | exact h | exact ⟨h.1, decide_eq_false h.2⟩)), hF⟩
end Go.Proofs.Ytflnlmibkbojcaa
namespace Go.Proofs.Ytflnlmibkbojcaa
open Go.RowKit
def AskAt (w : World) (F : Nat → Prop) (p : Value) : Option (Int × Bool) → Prop
  | none => p = .pointer none ∧ ∀ g, ¬ F g
  | some (l, wr) => ∃ ba, p = .pointer (some ⟨ba, 0, none⟩) ∧ Blk w ba 109 #[.int .u32 l, .bool wr] ∧ (∀ g, F g ↔ g = ba) ∧ 0 ≤ l ∧ l < 4294967296
def GivAt (w : World) (F : Nat → Prop) (p : Value) : Option Ln → Prop
  | none => p = .pointer none ∧ ∀ g, ¬ F g
  | some x => ∃ bg, p = .pointer (some ⟨bg, 0, none⟩) ∧ Blk w bg 39 (lnE.arr x) ∧ ∀ g, F g ↔ g = bg
section
variable {w w' : World} {F T : Nat → Prop} {p : Value} {ask : Option (Int × Bool)} {giv : Option Ln} {D : Nat}
theorem AskAt.only (h : AskAt w F p ask) (k : Only T w w') (hs : ∀ g, F g → ¬ T g) : AskAt w' F p ask := by
  rcases ask with _ | ⟨l, wr⟩
  · exact h
  · obtain ⟨ba, h1, h2, h3, h4⟩ := h
    exact ⟨ba, h1, h2.only k (hs _ ((h3 ba).2 rfl)), h3, h4⟩
theorem AskAt.new (h : AskAt w F p ask) (k : New w w') : AskAt w' F p ask := h.only k fun _ _ => id
theorem AskAt.lt (h : AskAt w F p ask) {g : Nat} (hg : F g) : g < w.heap.size := by
  rcases ask with _ | ⟨l, wr⟩
  · exact absurd hg (h.2 g)
  · obtain ⟨ba, h1, h2, h3, h4⟩ := h
    rw [(h3 g).1 hg]
    exact h2.lt
theorem AskAt.apart (h : AskAt w F p ask) {c : Nat} (hc : w.heap.size ≤ c) : ¬ F c := fun hi => by have := h.lt hi; omega
theorem GivAt.only (h : GivAt w F p giv) (k : Only T w w') (hs : ∀ g, F g → ¬ T g) : GivAt w' F p giv := by
  cases giv with
  | none => exact h
  | some x =>
    obtain ⟨bg, h1, h2, h3⟩ := h
    exact ⟨bg, h1, h2.only k (hs _ ((h3 bg).2 rfl)), h3⟩
theorem GivAt.new (h : GivAt w F p giv) (k : New w w') : GivAt w' F p giv := h.only k fun _ _ => id
theorem GivAt.lt (h : GivAt w F p giv) {g : Nat} (hg : F g) : g < w.heap.size := by
  cases giv with
  | none => exact absurd hg (h.2 g)
  | some x =>
    obtain ⟨bg, h1, h2, h3⟩ := h
    rw [(h3 g).1 hg]
    exact h2.lt
theorem GivAt.apart (h : GivAt w F p giv) {c : Nat} (hc : w.heap.size ≤ c) : ¬ F c := fun hi => by have := h.lt hi; omega
end
structure CacPure (Fp : Nat → Prop) (b : Nat) (FpL FpA FpG : Nat → Prop) : Prop where
  lb : ¬ FpL b
  ab : ¬ FpA b
  gb : ¬ FpG b
  la : ∀ k, FpL k → FpA k → False
  lg : ∀ k, FpL k → FpG k → False
  ag : ∀ k, FpA k → FpG k → False
  foot : ∀ k, Fp k ↔ k = b ∨ FpL k ∨ FpA k ∨ FpG k
structure CD where
  id : Int
  n : Nat
  ways : Int
  L : List Ln
  ask : Option (Int × Bool)
  giv : Option Ln
def CacheAt (w : World) (Fp : Nat → Prop) (b : Nat) (d : CD) : Prop :=
  ∃ lb FpL pa pg FpA FpG, Blk w b 83 #[.int .i64 d.id, .pointer (some ⟨lb, 0, none⟩), pa, pg] ∧ LinesAt w FpL lb d.n d.ways d.L ∧ AskAt w FpA pa d.ask ∧ GivAt w FpG pg d.giv ∧ CacPure Fp b FpL FpA FpG
section
variable {w w' : World} {Fp T : Nat → Prop} {b D : Nat} {d : CD}
theorem CacheAt.only (h : CacheAt w Fp b d) (k : Only T w w') (hs : ∀ g, Fp g → ¬ T g) : CacheAt w' Fp b d := by
  obtain ⟨lb, FpL, pa, pg, FpA, FpG, hB, hL, hA, hG, hP⟩ := h
  exact ⟨lb, FpL, pa, pg, FpA, FpG, hB.only k (hs _ ((hP.foot _).2 (.inl rfl))), hL.only k fun g hg => hs _ ((hP.foot _).2 (.inr (.inl hg))), hA.only k fun g hg => hs _ ((hP.foot _).2 (.inr (.inr (.inl hg)))), hG.only k fun g hg => hs _ ((hP.foot _).2 (.inr (.inr (.inr hg)))), hP⟩
theorem CacheAt.new (h : CacheAt w Fp b d) (k : New w w') : CacheAt w' Fp b d := h.only k fun _ _ => id
theorem CacheAt.lt (h : CacheAt w Fp b d) {g : Nat} (hg : Fp g) : g < w.heap.size := by
  obtain ⟨lb, FpL, pa, pg, FpA, FpG, hB, hL, hA, hG, hP⟩ := h
  rcases (hP.foot g).1 hg with rfl | hg | hg | hg
  · exact hB.lt
  · exact hL.lt hg
  · exact hA.lt hg
  · exact hG.lt hg
theorem CacheAt.apart (h : CacheAt w Fp b d) {c : Nat} (hc : w.heap.size ≤ c) : ¬ Fp c := fun hi => by have := h.lt hi; omega
theorem CacheAt.bd (h : CacheAt w Fp b d) : 0 < d.n ∧ d.n ≤ 64 ∧ 1 ≤ d.ways ∧ d.ways ≤ 8 := by
  obtain ⟨lb, FpL, pa, pg, FpA, FpG, hB, hL, hA, hG, hP⟩ := h
  exact hL.bd
end
def stopE (why : Int) : List PanicEntry := [{ v := .iface 161 (.agg #[.int .i64 why]), recovered := false }]
def stateOf (L : List Ln) (num : Int) : Int := ((getN L num).getD ln0).state
def writesB (s : Int) : Bool := decide (s = 2) || decide (s = 3)
end Go.Proofs.Ytflnlmibkbojcaa
namespace Go.Proofs.Ytflnlmibkbojcaa
open Go.RowKit
theorem cnone_c {w : World} {b lb : Nat} {i x y : Value} (hB : Blk w b 83 #[i, .pointer (some ⟨lb, 0, none⟩), x, y]) : Calls Try.prog 43 #[.pointer (some ⟨b, 0, none⟩)] w (Ret fun v w' => v = .bool false ∧ w' = w) := by
 refine Zen 12 Try.func43 ?_
 refine Zsr ?_
 refine Zan ?_
 refine Zsm ?_
 refine Zv (.bool false) (fun _ fr => x_peql Try.underlying25 rfl (fr.ev rfl) rfl rfl) ?_
 refine Zmm ?_
 refine Zn ?_
 refine Zf fo83_1 ?_
 refine Zd pl79 (hB.cell 1 rfl) ?_
 refine Zv (.bool false) (fun _ fr => x_peql Try.underlying79 rfl (fr.ev rfl) rfl rfl) ?_
 refine Zpf ?_
 refine Zar ?_
 refine Zre rfl [_] ⟨rfl, trivial⟩ ?_
 exact ⟨_, rfl, rfl, rfl⟩
theorem must_ok (e : Int) (w : World) : Calls Try.prog 78 #[.bool true, .int .i64 e] w (Ret fun v w' => v = .tuple #[] ∧ w' = w) := by
 refine Zen 9 Try.func78 ?_
 refine Zsm ?_
 refine Zv (.bool false) (fun _ fr => x_not rfl (fr.ev rfl) rfl) ?_
 refine Znf ?_
 refine Zsk ?_
 refine Zee rfl [] trivial ?_
 exact ⟨_, rfl, rfl, rfl⟩
theorem must_no (e : Int) (w : World) : Calls Try.prog 78 #[.bool false, .int .i64 e] w (Pan fun c w' => c = stopE e ∧ w' = w) := by
 refine Zen 9 Try.func78 ?_
 refine Zsm ?_
 refine Zv (.bool true) (fun _ fr => x_not rfl (fr.ev rfl) rfl) ?_
 refine Znt ?_
 refine Zgm ?_
 refine Zv (.agg (#[.int .i64 e])) (fun a fr => x_build (cells := #[.int .i64 e]) rfl (by simp only [List.map_toArray, List.map_cons, List.map_nil, show a.eval (.tmp 6) = .int .i64 e from fr.ev rfl]; kernel_rfl)) ?_
 refine Zv _ (fun _ fr => x_makeInterface rfl (fr.ev rfl) Try.underlying161 rfl) ?_
 intro a fr
 refine fx_panic rfl rfl (fr.ev rfl) ?_
 refine fx_pend fr ?_
 exact ⟨_, rfl, rfl, rfl⟩
theorem writes_c (x : Int) (w : World) : Calls Try.prog 44 #[.int .i64 x] w (Ret fun v w' => v = .bool (writesB x) ∧ w' = w) := by
 refine Zen 9 Try.func44 ?_
 refine Zsr ?_
 refine Zan ?_
 refine Zsm ?_
 refine Zv _ (fun _ fr => x_eql rfl (fr.ev rfl) rfl rfl) ?_
 refine Zm ?_
 refine Zy (!(decide (x = 2))) (.int .i64 x) (fun _ fr _ => x_move rfl (fr.ev rfl)) ?_
 refine Zy (!(decide (x = 2))) _ (fun _ fr hg => x_eql rfl ((fr.ev rfl).trans (onlyIf_t hg)) rfl rfl) ?_
 refine Zv (.bool ((decide (x = 2)) || (decide (x = 3)))) (fun _ fr => x_pick_or rfl (fr.ev rfl) (fun _ => rfl) (fun hb => ((fr.ev rfl)).trans (onlyIf_t (by simp_all))) rfl) ?_
 refine Zar ?_
 refine Zre rfl [_] ⟨rfl, trivial⟩ ?_
 exact ⟨_, rfl, rfl, rfl⟩
theorem state_c (line : Int) (hln : 0 ≤ line ∧ line < 4294967296) {w : World} {b lb : Nat} {id : Int} {pa pg : Value} {FpL : Nat → Prop} {n : Nat} {ways : Int} {L : List Ln} (hB : Blk w b 83 #[.int .i64 id, .pointer (some ⟨lb, 0, none⟩), pa, pg]) (hL : LinesAt w FpL lb n ways L) (ap_FpL_b : ¬ FpL b)  : Calls Try.prog 34 #[.pointer (some ⟨b, 0, none⟩), .int .u32 line] w (Ret fun v w' => v = .int .i64 (stateOf L line) ∧ New w w') := by
 obtain ⟨hn1, hn2, hw1, hw2⟩ := hL.bd
 have hF := Only.refl (fun _ => False) w
 refine Zen 20 Try.func34 ?_
 refine Zsr ?_
 refine Zaq ?_
 refine Zsm ?_
 refine Zk cf43 (cnone_c hB) ?_
 rintro v w9 ⟨rfl, hw9⟩
 obtain rfl := hw9.symm
 refine Znf ?_
 refine Zkn ?_
 refine Zsm ?_
 refine Zn ?_
 refine Zf fo83_1 ?_
 refine Zd pl79 (hB.cell 1 rfl) ?_
 refine Zm ?_
 refine Zk (args := #[.pointer (some ⟨lb, 0, none⟩), .int .u32 line]) cf55 (find_c line (by omega) hL) ?_
 rintro v w3 ⟨rfl, hN4⟩
 refine Zm ?_
 refine Ztt ?_
 refine Zna (z := zv1) (cs := lnE.arr ln0) (by kernel_rfl) fun b5 w6 hN7 B8 hb9 => ?_
 replace hF := hF.trNew hN4
 have g_b5 := hF.sz hb9
 refine ZsS sz39 (lnE.all _) B8 (lnE.size _) (lnE.size _) fun w10 hO11 B8 => ?_
 refine Zan ?_
 refine Zsr ?_
 refine Zf fo39_1 ?_
 refine Zd (v := .int .i64 (((getN L line).getD ln0).state)) pl36 (B8.cell 1 rfl) ?_
 refine Zar ?_
 refine Zre rfl [_] ⟨rfl, trivial⟩ ?_
 replace hF := (hF.trNew hN7).loc hO11 (.inr g_b5)
 exact ⟨_, rfl, rfl, hF⟩
def zv3 : Value := .agg (#[.int .i64 0, .int .i64 0, .int .i64 0, .int .u32 0, .int .u8 0, .int .u8 0, .int .u8 0, .int .u8 0, .int .u8 0, .int .u8 0, .int .u8 0, .int .u8 0, .int .u8 0, .int .u8 0, .int .u8 0, .int .u8 0, .int .u8 0, .int .u8 0, .int .u8 0, .int .u8 0])
theorem msg_c {w : World} {b : Nat} {id : Int} {p1 pa pg : Value} (hB : Blk w b 83 #[.int .i64 id, p1, pa, pg]) (kind : Int) (line : Int) (hln : 0 ≤ line ∧ line < 4294967296)  : Calls Try.prog 47 #[.pointer (some ⟨b, 0, none⟩), .int .i64 kind, .int .u32 line] w (Ret fun v w' => v = .agg (msgE.arr (mkM kind id 4 line b16z hln)) ∧ New w w') := by
 have hF := Only.refl (fun _ => False) w
 refine Zen 14 Try.func47 ?_
 refine Zsr ?_
 refine Zna (z := zv3) (cs := msgE.arr msg0) (by kernel_rfl) fun b1 w2 hN3 B4 hb5 => ?_
 have g_b1 := hF.sz hb5
 refine Znn ?_
 refine Zsm ?_
 refine Zm ?_
 refine Zn ?_
 refine Zf fo83_0 ?_
 replace hB := hB.new hN3
 refine Zd (v := .int .i64 id) pl3 (hB.cell 0 rfl) ?_
 refine Zm ?_
 refine Zv (.agg (msgE.arr (mkM kind id 4 line))) (fun a fr => x_build (cells := msgE.arr (mkM kind id 4 line)) rfl (by simp only [List.map_toArray, List.map_cons, List.map_nil, show a.eval (.tmp 7) = .int .i64 kind from fr.ev rfl, show a.eval (.tmp 11) = .int .i64 id from fr.ev rfl, show a.eval (.tmp 12) = .int .u32 line from fr.ev rfl]; kernel_rfl)) ?_
 refine ZsS sz35 (msgE.all _) B4 (msgE.size _) (msgE.size _) fun w6 hO7 B4 => ?_
 refine Znn ?_
 refine Zrt ?_
 refine Zre rfl [_] ⟨⟨_, rfl, loadV_E (E := msgE) ag35 rfl (B4.rangeE msgE)⟩, trivial⟩ ?_
 replace hF := (hF.trNew hN3).loc hO7 (.inr g_b1)
 exact ⟨_, rfl, rfl, hF⟩
end Go.Proofs.Ytflnlmibkbojcaa
namespace Go.Proofs.Ytflnlmibkbojcaa
open Go.RowKit
def askM (id : Int) (line : Int) (wr : Bool) (h : 0 ≤ line ∧ line < 4294967296) : Msg := mkM (if wr then 2 else 1) id 4 line b16z h
def putM (id : Int) (x : Ln) : Msg := mkM 3 id 4 x.num x.bs x.hn
def outF (d : CD) (x : Ln) : CD × List Msg × Bool :=
  if x.state = 1 then ({ d with L := dropL d.L x.num }, [], true)
  else match d.giv with
    | some _ => (d, [], false)
    | none => ({ d with L := dropL d.L x.num, giv := some x }, [putM d.id x], true)
def mine (giv : Option Ln) (line : Int) : Bool := match giv with | some x => decide (x.num = line) | none => false
def askF (d : CD) (line : Int) (h : 0 ≤ line ∧ line < 4294967296) (wr : Bool) (pick : Int) : CD × List Msg × Int :=
  if d.ask.isSome = true ∨ mine d.giv line = true then (d, [], 230)
  else if stateOf d.L line ≠ 0 ∧ (wr = false ∨ writesB (stateOf d.L line) = true) then (d, [], 231)
  else match vicL d.n d.ways d.L line pick with
    | none => ({ d with ask := some (line, wr) }, [askM d.id line wr h], 0)
    | some x => if (outF d x).2.2 = true then ({ (outF d x).1 with ask := some (line, wr) }, (outF d x).2.1 ++ [askM d.id line wr h], 0) else (d, [], 230)
def dataOk (d : CD) (m : Msg) : Bool := match d.ask with | some (l, wr) => decide (l = m.line) && (wr == decide (m.kind = 10)) | none => false
def dataLn (m : Msg) : Ln := mkL m.line (if m.kind = 8 then 1 else 2) m.bs m.hn
def takeF (d : CD) (m : Msg) : CD × List Msg × Int :=
  if chk m ≠ 0 ∨ m.dst ≠ d.id then (d, [], 2)
  else if m.kind = 8 ∨ m.kind = 9 ∨ m.kind = 10 then
    (if dataOk d m = true ∧ putE d.n d.ways d.L (dataLn m) = 0 then ({ d with L := putL d.n d.ways d.L (dataLn m), ask := none }, [mkM 13 d.id 4 m.line b16z m.hn], 0) else (d, [], 220))
  else if m.kind = 4 ∨ m.kind = 5 then
    (match d.giv with
      | some x => if x.num = m.line then (d, [mkM 11 d.id 4 m.line x.bs m.hn], 0) else backF d m
      | none => backF d m)
  else if m.kind = 6 then (if writesB (stateOf d.L m.line) = true then (d, [], 220) else ({ d with L := dropL d.L m.line }, [mkM 12 d.id 4 m.line b16z m.hn], 0))
  else if mine d.giv m.line = true then ({ d with giv := none }, [], 0) else (d, [], 220)
where
  backF (d : CD) (m : Msg) : CD × List Msg × Int :=
    if writesB (stateOf d.L m.line) = true then
      ({ d with L := if m.kind = 4 then putL d.n d.ways d.L { (getN d.L m.line).getD ln0 with state := 1 } else dropL d.L ((getN d.L m.line).getD ln0).num }, [mkM 11 d.id 4 m.line ((getN d.L m.line).getD ln0).bs m.hn], 0)
    else (d, [], 220)
def evictF (d : CD) (pick : Int) : CD × List Msg := if d.L = [] then (d, []) else ((outF d ((allL d.n d.L).getD (pickAt pick d.L.length) ln0)).1, (outF d ((allL d.n d.L).getD (pickAt pick d.L.length) ln0)).2.1)
end Go.Proofs.Ytflnlmibkbojcaa
namespace Go.Proofs.Ytflnlmibkbojcaa
open Go.RowKit
section
variable {P : Program} {N : Nat × List Deferred} {T : List (Nat × Value)} {a : Act} {w : World} {Q : Exit → Act → World → Prop} {ops : Array Oper} {rest : List Oper} {o : Oper}
theorem fx_storePart {α β : Type} [DecidableEq α] [DecidableEq β] {E : Enc P α} {E2 : Enc P β} {t b q : Nat} {tb : TypeId} {m m' : α} {z : β} {x y : Operand} (hs : (P.info? t).map (·.size) = some E2.n) (hw : Region.wanted o (yielded ops a.tmps) = true) (hd : o.dst = none) (ho : o.op = .store t x y)
    (hx : a.eval x = .pointer (some ⟨b, q, none⟩)) (hy : a.eval y = .agg (E2.arr z)) (hB : Blk w b tb (E.arr m)) (hq : q + E2.n ≤ E.n) (hset : (E.cells m).take q ++ E2.cells z ++ (E.cells m).drop (q + E2.n) = E.cells m')
    (next : ∀ w1, Only (fun k => k = b) w w1 → Blk w1 b tb (E.arr m') → wpList P ops Q rest a w1) : wpList P ops Q (o :: rest) a w := by
  refine fx_storeAt (t := t) hs hw hd ho hx hy (E2.all _) hB (E2.size _) (by rw [E.size]; exact hq) rfl fun w1 hO hB1 => next w1 hO ?_
  rw [E.toList, E2.toList, hset] at hB1
  exact hB1
end
theorem msg_setbs (m : Msg) (z : B16) : (msgE.cells m).take 4 ++ bsE.cells z ++ (msgE.cells m).drop (4 + 16) = msgE.cells { m with bs := z } := by
  show (m.cells).take 4 ++ b16c z ++ (m.cells).drop 20 = Msg.cells { m with bs := z }
  rw [List.drop_eq_nil_of_le (by rw [m.len]; omega)]
  simp [Msg.cells, b16c]
theorem built_ln16 (n s a0 a1 a2 a3 a4 a5 a6 a7 a8 a9 a10 a11 a12 a13 a14 a15 : Int) : Try.prog.built 39 [(0, .int .u32 n), (1, .int .i64 s), (2, .agg #[.int .u8 a0, .int .u8 a1, .int .u8 a2, .int .u8 a3, .int .u8 a4, .int .u8 a5, .int .u8 a6, .int .u8 a7, .int .u8 a8, .int .u8 a9, .int .u8 a10, .int .u8 a11, .int .u8 a12, .int .u8 a13, .int .u8 a14, .int .u8 a15])] = some #[.int .u32 n, .int .i64 s, .int .u8 a0, .int .u8 a1, .int .u8 a2, .int .u8 a3, .int .u8 a4, .int .u8 a5, .int .u8 a6, .int .u8 a7, .int .u8 a8, .int .u8 a9, .int .u8 a10, .int .u8 a11, .int .u8 a12, .int .u8 a13, .int .u8 a14, .int .u8 a15] := by kernel_rfl
theorem built_ln (n s : Int) (z : B16) (h : 0 ≤ n ∧ n < 4294967296) : Try.prog.built 39 [(0, .int .u32 n), (1, .int .i64 s), (2, .agg (bsE.arr z))] = some (lnE.arr (mkL n s z h)) := by
  obtain ⟨l, hl, hb⟩ := z
  match l, hl, hb with
  | [a0, a1, a2, a3, a4, a5, a6, a7, a8, a9, a10, a11, a12, a13, a14, a15], _, _ => exact built_ln16 n s a0 a1 a2 a3 a4 a5 a6 a7 a8 a9 a10 a11 a12 a13 a14 a15
theorem ln_setstate (x : Ln) (s : Int) : (lnE.arr x).setIfInBounds 1 (.int .i64 s) = lnE.arr { x with state := s } := by
  simp [Enc.arr, lnE, Ln.cells]
end Go.Proofs.Ytflnlmibkbojcaa
namespace Go.Proofs.Ytflnlmibkbojcaa
open Go.RowKit
theorem out_s {w : World} {b lb : Nat} {id : Int} {pa pg : Value} {FpL : Nat → Prop} {n : Nat} {ways : Int} {L : List Ln} (hB : Blk w b 83 #[.int .i64 id, .pointer (some ⟨lb, 0, none⟩), pa, pg]) (hL : LinesAt w FpL lb n ways L) (ap_FpL_b : ¬ FpL b) (x : Ln) (hs : x.state = 1) : Calls Try.prog 46 #[.pointer (some ⟨b, 0, none⟩), .agg (lnE.arr x)] w (Ret fun v w' => v = .tuple #[.slice none 0 0, .bool true] ∧ Blk w' b 83 #[.int .i64 id, .pointer (some ⟨lb, 0, none⟩), pa, pg] ∧ ∃ Fp', LinesAt w' Fp' lb n ways (dropL L x.num) ∧ (∀ g, Fp' g → FpL g ∨ w.heap.size ≤ g) ∧ Only (fun k => k = b ∨ FpL k) w w') := by
 obtain ⟨hn1, hn2, hw1, hw2⟩ := hL.bd
 have gA_FpL : ∀ g, FpL g → (g = b ∨ FpL g) ∨ w.heap.size ≤ g := fun g hg => .inl (.inr hg)
 have hxn := x.hn
 have hF := Only.refl (fun k => k = b ∨ FpL k) w
 refine Zen 41 Try.func46 ?_
 refine Zsr ?_
 refine Znb (cs := lnE.arr x) fun b1 w2 hN3 B4 hb5 => ?_
 have ap_FpL_b1 := hL.apart hb5
 refine Za ?_
 refine Zaq ?_
 refine Zsr ?_
 refine Zf fo39_1 ?_
 refine Zd (v := .int .i64 x.state) pl36 (B4.cell 1 rfl) ?_
 refine Zv (.bool true) (fun _ fr => x_eql rfl (fr.ev rfl) rfl (decide_eq_true (by omega))) ?_
 refine Znt ?_
 refine Zsq ?_
 refine Zhd (n := 7) (fun w => Blk w b 83 #[.int .i64 id, .pointer (some ⟨lb, 0, none⟩), pa, pg] ∧ Blk w b1 39 (lnE.arr x) ∧ True) ?_
 intro w6 hN7
 replace hB := (hB.new hN3).new hN7
 replace B4 := B4.new hN7
 have hS9 := And.intro hB (And.intro B4 trivial)
 refine Zhm 0 hS9 ?_
 refine Zhc 1 hS9 ?_
 refine Zhf 2 fo83_1 hS9 ?_
 refine Zhl 3 pl79 hS9 (fun _ ⟨hB, _⟩ => (hB.cell 1 rfl)) ?_
 refine Zhf 4 fo39_0 hS9 ?_
 refine Zhl (v := .int .u32 x.num) 5 pl32 hS9 (fun _ ⟨_, B4, _⟩ => (B4.cell 0 rfl)) ?_
 refine Zh1 6 ?_
 replace hL := (hL.new hN3).new hN7
 refine Zk (args := #[.pointer (some ⟨lb, 0, none⟩), .int .u32 x.num]) cf76 (drop_c x.num (by omega) hL) ?_
 rintro v w11 ⟨rfl, Fp8, H9, hN12, mv10⟩
 have ap_Fp8_b : ¬ Fp8 b := moved_apartP mv10 ap_FpL_b hB.lt
 replace hF := (hF.trNew hN3).trNew hN7
 have gA_Fp8 := gA_movedP hF mv10 gA_FpL
 clear hL
 replace hB := hB.only hN12 ap_FpL_b
 replace B4 := B4.only hN12 ap_FpL_b1
 refine Zhb ⟨hB, B4, trivial⟩ ?_
 refine Zhn ?_
 refine Znx ?_
 refine Zsr ?_
 refine Za ?_
 refine Zar ?_
 refine Zr1 ?_
 refine Zre rfl [_, _] ⟨rfl, rfl, trivial⟩ ?_
 replace hF := hF.locP hN12 gA_FpL
 exact ⟨_, rfl, rfl, hB, Fp8, H9, (fun g hg => (gA_Fp8 g hg).elim (fun h => h.elim (fun e => absurd hg (e ▸ ap_Fp8_b)) .inl) .inr), hF⟩
theorem out_b {w : World} {b lb bg : Nat} {id : Int} {pa : Value} {FpL : Nat → Prop} {n : Nat} {ways : Int} {L : List Ln} (hB : Blk w b 83 #[.int .i64 id, .pointer (some ⟨lb, 0, none⟩), pa, .pointer (some ⟨bg, 0, none⟩)]) (hL : LinesAt w FpL lb n ways L) (ap_FpL_b : ¬ FpL b) (x : Ln) (hs : ¬ x.state = 1) : Calls Try.prog 46 #[.pointer (some ⟨b, 0, none⟩), .agg (lnE.arr x)] w (Ret fun v w' => v = .tuple #[.slice none 0 0, .bool false] ∧ New w w') := by
 have hF := Only.refl (fun _ => False) w
 refine Zen 41 Try.func46 ?_
 refine Zsr ?_
 refine Znb (cs := lnE.arr x) fun b1 w2 hN3 B4 hb5 => ?_
 refine Za ?_
 refine Zaq ?_
 refine Zsr ?_
 refine Zf fo39_1 ?_
 refine Zd (v := .int .i64 x.state) pl36 (B4.cell 1 rfl) ?_
 refine Zv (.bool false) (fun _ fr => x_eql rfl (fr.ev rfl) rfl (decide_eq_false hs)) ?_
 refine Znf ?_
 refine Zkn ?_
 refine Zsq ?_
 refine Zsm ?_
 refine Zn ?_
 refine Zf fo83_3 ?_
 replace hB := hB.new hN3
 refine Zd pl81 (hB.cell 3 rfl) ?_
 refine Zv (.bool true) (fun _ fr => x_pneq Try.underlying81 rfl (fr.ev rfl) rfl rfl) ?_
 refine Znt ?_
 refine Zsr ?_
 refine Za ?_
 refine Zar ?_
 refine Zr1 ?_
 refine Zre rfl [_, _] ⟨rfl, rfl, trivial⟩ ?_
 replace hF := hF.trNew hN3
 exact ⟨_, rfl, rfl, hF⟩
theorem out_n {w : World} {b lb : Nat} {id : Int} {pa : Value} {FpL : Nat → Prop} {n : Nat} {ways : Int} {L : List Ln} (hB : Blk w b 83 #[.int .i64 id, .pointer (some ⟨lb, 0, none⟩), pa, .pointer none]) (hL : LinesAt w FpL lb n ways L) (ap_FpL_b : ¬ FpL b) (x : Ln) (hs : ¬ x.state = 1) : Calls Try.prog 46 #[.pointer (some ⟨b, 0, none⟩), .agg (lnE.arr x)] w (Ret fun v w' => ∃ A' cap', v = .tuple #[.slice A' 1 cap', .bool true] ∧ Own msgE w' A' cap' [putM id x] ∧ (∀ g, inA A' g → w.heap.size ≤ g) ∧ ∃ bn, Blk w' bn 39 (lnE.arr x) ∧ Blk w' b 83 #[.int .i64 id, .pointer (some ⟨lb, 0, none⟩), pa, .pointer (some ⟨bn, 0, none⟩)] ∧ w.heap.size ≤ bn ∧ ∃ Fp', LinesAt w' Fp' lb n ways (dropL L x.num) ∧ (∀ g, Fp' g → FpL g ∨ w.heap.size ≤ g) ∧ ¬ Fp' bn ∧ Apart A' bn ∧ (∀ k, Fp' k → inA A' k → False) ∧ Only (fun k => k = b ∨ FpL k) w w') := by
 obtain ⟨hn1, hn2, hw1, hw2⟩ := hL.bd
 have gA_FpL : ∀ g, FpL g → (g = b ∨ FpL g) ∨ w.heap.size ≤ g := fun g hg => .inl (.inr hg)
 have hxn := x.hn
 have hF := Only.refl (fun k => k = b ∨ FpL k) w
 refine Zen 41 Try.func46 ?_
 refine Zsr ?_
 refine Znb (cs := lnE.arr x) fun b1 w2 hN3 B4 hb5 => ?_
 have ne_b_b1 := nelt hB.lt hb5
 have ap_FpL_b1 := hL.apart hb5
 have g_b1 := hF.sz hb5
 refine Za ?_
 refine Zaq ?_
 refine Zsr ?_
 refine Zf fo39_1 ?_
 refine Zd (v := .int .i64 x.state) pl36 (B4.cell 1 rfl) ?_
 refine Zv (.bool false) (fun _ fr => x_eql rfl (fr.ev rfl) rfl (decide_eq_false hs)) ?_
 refine Znf ?_
 refine Zkn ?_
 refine Zsq ?_
 refine Zsm ?_
 refine Zn ?_
 refine Zf fo83_3 ?_
 replace hB := hB.new hN3
 refine Zd pl81 (hB.cell 3 rfl) ?_
 refine Zv (.bool false) (fun _ fr => x_pneq Try.underlying81 rfl (fr.ev rfl) rfl rfl) ?_
 refine Znf ?_
 refine Zkn ?_
 refine Zsq ?_
 refine Zhd (n := 7) (fun w => Blk w b 83 #[.int .i64 id, .pointer (some ⟨lb, 0, none⟩), pa, .pointer none] ∧ Blk w b1 39 (lnE.arr x) ∧ True) ?_
 intro w6 hN7
 replace hB := hB.new hN7
 replace B4 := B4.new hN7
 have hS9 := And.intro hB (And.intro B4 trivial)
 refine Zhm 0 hS9 ?_
 refine Zhc 1 hS9 ?_
 refine Zhf 2 fo83_1 hS9 ?_
 refine Zhl 3 pl79 hS9 (fun _ ⟨hB, _⟩ => (hB.cell 1 rfl)) ?_
 refine Zhf 4 fo39_0 hS9 ?_
 refine Zhl (v := .int .u32 x.num) 5 pl32 hS9 (fun _ ⟨_, B4, _⟩ => (B4.cell 0 rfl)) ?_
 refine Zh1 6 ?_
 replace hL := (hL.new hN3).new hN7
 refine Zk (args := #[.pointer (some ⟨lb, 0, none⟩), .int .u32 x.num]) cf76 (drop_c x.num (by omega) hL) ?_
 rintro v w11 ⟨rfl, Fp8, H9, hN12, mv10⟩
 have ap_Fp8_b : ¬ Fp8 b := moved_apartP mv10 ap_FpL_b hB.lt
 have ap_Fp8_b1 : ¬ Fp8 b1 := moved_apartP mv10 ap_FpL_b1 B4.lt
 replace hF := (hF.trNew hN3).trNew hN7
 have gA_Fp8 := gA_movedP hF mv10 gA_FpL
 clear hL
 replace hB := hB.only hN12 ap_FpL_b
 replace B4 := B4.only hN12 ap_FpL_b1
 refine Zhb ⟨hB, B4, trivial⟩ ?_
 refine Zhn ?_
 refine Znx ?_
 refine Zsm ?_
 refine Zn ?_
 refine Zf fo83_3 ?_
 refine Zs1 (cs' := #[.int .i64 id, .pointer (some ⟨lb, 0, none⟩), pa, .pointer (some ⟨b1, 0, none⟩)]) sz81 hB (show 3 < 4 by decide) rfl fun w13 hO14 hB => ?_
 refine Znn ?_
 refine Zsm ?_
 refine Zf fo39_0 ?_
 replace B4 := B4.only hO14 ne_b_b1.symm
 refine Zd (v := .int .u32 x.num) pl32 (B4.cell 0 rfl) ?_
 refine Zk (args := #[.pointer (some ⟨b, 0, none⟩), .int .i64 3, .int .u32 x.num]) cf47 (msg_c hB 3 x.num (by omega)) ?_
 rintro v w15 ⟨rfl, hN16⟩
 refine Zna (z := zv3) (cs := msgE.arr msg0) (by kernel_rfl) fun b17 w18 hN19 B20 hb21 => ?_
 replace B4 := B4.new hN16
 have ne_b1_b17 := nelt B4.lt hb21
 replace H9 := (H9.only hO14 (ne1P ap_Fp8_b)).new hN16
 have ap_Fp8_b17 := H9.apart hb21
 replace hB := hB.new hN16
 have ne_b_b17 := nelt hB.lt hb21
 replace hF := ((hF.locP hN12 gA_FpL).loc hO14 (.inl (.inl rfl))).trNew hN16
 have g_b17 := hF.sz hb21
 refine ZsS sz35 (msgE.all _) B20 (msgE.size _) (msgE.size _) fun w22 hO23 B20 => ?_
 refine Znn ?_
 refine Zsr ?_
 refine Zf fo39_2 ?_
 replace B4 := (B4.new hN19).only hO23 ne_b1_b17
 refine ZE (p := x.bs) bsE ag22 (B4.part (ln_bs _)) ?_
 refine Zf fo35_4 ?_
 intro a fr
 refine fx_storePart (E := msgE) (E2 := bsE) (q := 4) (m := (mkM 3 id 4 x.num)) (m' := { (mkM 3 id 4 x.num) with bs := x.bs }) (z := x.bs) sz22 rfl rfl rfl (fr.ev rfl) (fr.ev rfl) B20 (by decide) (msg_setbs _ _) fun w24 hO25 hBq => ?_
 revert a
 replace B20 := hBq
 clear hBq
 refine Znn ?_
 refine Zsr ?_
 refine ZE msgE ag35 (B20.rangeE msgE) ?_
 intro a fr
 refine fx_build1 (E := msgE) (p := { (mkM 3 id 4 x.num) with bs := x.bs }) elMsg (by decide) fr rfl rfl (by decide) rfl (fr.ev rfl) ?_
 clear fr a
 intro A26 w27 hN28 O29 hA30
 replace B4 := B4.only hO25 ne_b1_b17
 have ap_A26_b1 : Apart A26 b1 := new_apart hA30 B4.lt
 replace H9 := ((H9.new hN19).only hO23 (ne1P ap_Fp8_b17)).only hO25 (ne1P ap_Fp8_b17)
 have ap2_Fp8_A26 : ∀ k, Fp8 k → inA A26 k → False := symP (new_apart2P hA30 fun _ hg => H9.lt hg)
 replace hF := ((hF.trNew hN19).loc hO23 (.inr g_b17)).loc hO25 (.inr g_b17)
 have gN_A26 := fun g (hg : inA A26 g) => Nat.le_trans hF.size (hA30 g hg)
 refine Za ?_
 refine Zar ?_
 refine Zre rfl [_, _] ⟨rfl, rfl, trivial⟩ ?_
 replace hB := (((hB.new hN19).only hO23 ne_b_b17).only hO25 ne_b_b17).new hN28
 replace B4 := B4.new hN28
 replace H9 := H9.new hN28
 replace hF := hF.trNew hN28
 exact ⟨_, rfl, A26, 1, rfl, O29, gN_A26, b1, B4, hB, g_b1, Fp8, H9, (fun g hg => (gA_Fp8 g hg).elim (fun h => h.elim (fun e => absurd hg (e ▸ ap_Fp8_b)) .inl) .inr), ap_Fp8_b1, ap_A26_b1, ap2_Fp8_A26, hF⟩
end Go.Proofs.Ytflnlmibkbojcaa
namespace Go.Proofs.Ytflnlmibkbojcaa
open Go.RowKit
theorem drop_ok {w : World} {Fp : Nat → Prop} {b : Nat} {id : Int} {n : Nat} {ways : Int} {L : List Ln} {ask : Option (Int × Bool)} {giv : Option Ln} (H : CacheAt w Fp b ⟨id, n, ways, L, ask, giv⟩) (m : Msg) (hw : writesB (stateOf L m.line) = false) : Calls Try.prog 52 #[.pointer (some ⟨b, 0, none⟩), .agg (msgE.arr m)] w (Ret fun v w' => ∃ A' cap', v = .slice A' ([mkM 12 id 4 m.line b16z m.hn]).length cap' ∧ Own msgE w' A' cap' ([mkM 12 id 4 m.line b16z m.hn]) ∧ (∀ g, inA A' g → w.heap.size ≤ g) ∧ ∃ Fp', CacheAt w' Fp' b ⟨id, n, ways, dropL L m.line, ask, giv⟩ ∧ Only Fp w w' ∧ ∀ g, Fp' g → Fp g ∨ w.heap.size ≤ g) := by
 obtain ⟨lb, FpL, pa, pg, FpA, FpG, hB, hL, hA, hG, hP⟩ := H
 dsimp only at hB hL hA hG
 have ap_FpL_b := hP.lb
 have ap_FpA_b := hP.ab
 have ap_FpG_b := hP.gb
 have ap2_FpL_FpA := hP.la
 have ap2_FpL_FpG := hP.lg
 have ap2_FpA_FpG := hP.ag
 obtain ⟨hn1, hn2, hw1, hw2⟩ := hL.bd
 have gA_FpL : ∀ g, FpL g → Fp g ∨ w.heap.size ≤ g := fun g hg => .inl ((hP.foot g).2 (.inr (.inl hg)))
 have gA_FpA : ∀ g, FpA g → Fp g ∨ w.heap.size ≤ g := fun g hg => .inl ((hP.foot g).2 (.inr (.inr (.inl hg))))
 have gA_FpG : ∀ g, FpG g → Fp g ∨ w.heap.size ≤ g := fun g hg => .inl ((hP.foot g).2 (.inr (.inr (.inr hg))))
 have hmn := m.hn
 have hF := Only.refl (Fp) w
 refine Zen 24 Try.func52 ?_
 refine Zsr ?_
 refine Znb (cs := msgE.arr m) fun b1 w2 hN3 B4 hb5 => ?_
 have ap_FpL_b1 := hL.apart hb5
 refine Zan ?_
 refine Zsm ?_
 refine Zf fo35_3 ?_
 refine Zd (v := .int .u32 m.line) pl32 (B4.cell 3 rfl) ?_
 replace hB := hB.new hN3
 replace hL := hL.new hN3
 refine Zk (args := #[.pointer (some ⟨b, 0, none⟩), .int .u32 m.line]) cf34 (state_c m.line (by omega) hB hL ap_FpL_b) ?_
 rintro v w6 ⟨rfl, hN7⟩
 refine Zk cf44 (writes_c (stateOf L m.line) _) ?_
 rintro v _ ⟨rfl, hw9⟩
 obtain rfl := hw9.symm
 intro a fr
 rw [hw] at fr
 revert a
 refine Zv (.bool true) (fun _ fr => x_not rfl (fr.ev rfl) rfl) ?_
 refine Zk cf78 (must_ok 220 _) ?_
 rintro v w9 ⟨rfl, hw9⟩
 obtain rfl := hw9.symm
 refine Znq ?_
 refine Zhd (n := 7) (fun w => Blk w b 83 #[.int .i64 id, .pointer (some ⟨lb, 0, none⟩), pa, pg] ∧ Blk w b1 35 (msgE.arr m) ∧ True) ?_
 intro w12 hN13
 replace hB := (hB.new hN7).new hN13
 replace B4 := (B4.new hN7).new hN13
 have hS9 := And.intro hB (And.intro B4 trivial)
 refine Zhm 0 hS9 ?_
 refine Zhc 1 hS9 ?_
 refine Zhf 2 fo83_1 hS9 ?_
 refine Zhl 3 pl79 hS9 (fun _ ⟨hB, _⟩ => (hB.cell 1 rfl)) ?_
 refine Zhf 4 fo35_3 hS9 ?_
 refine Zhl (v := .int .u32 m.line) 5 pl32 hS9 (fun _ ⟨_, B4, _⟩ => (B4.cell 3 rfl)) ?_
 refine Zh1 6 ?_
 replace hL := (hL.new hN7).new hN13
 refine Zk (args := #[.pointer (some ⟨lb, 0, none⟩), .int .u32 m.line]) cf76 (drop_c m.line (by omega) hL) ?_
 rintro v w17 ⟨rfl, Fp14, H15, hN18, mv16⟩
 have ap_Fp14_b : ¬ Fp14 b := moved_apartP mv16 ap_FpL_b hB.lt
 replace hA := ((hA.new hN3).new hN7).new hN13
 have ap2_Fp14_FpA : ∀ k, Fp14 k → FpA k → False := moved_apart2P mv16 ap2_FpL_FpA fun _ hg => hA.lt hg
 replace hG := ((hG.new hN3).new hN7).new hN13
 have ap2_Fp14_FpG : ∀ k, Fp14 k → FpG k → False := moved_apart2P mv16 ap2_FpL_FpG fun _ hg => hG.lt hg
 replace hF := ((hF.trNew hN3).trNew hN7).trNew hN13
 have gA_Fp14 := gA_movedP hF mv16 gA_FpL
 clear hL
 replace hB := hB.only hN18 ap_FpL_b
 replace B4 := B4.only hN18 ap_FpL_b1
 refine Zhb ⟨hB, B4, trivial⟩ ?_
 refine Zhn ?_
 refine Znx ?_
 refine Zsm ?_
 refine Zf fo35_3 ?_
 refine Zd (v := .int .u32 m.line) pl32 (B4.cell 3 rfl) ?_
 refine Zk (args := #[.pointer (some ⟨b, 0, none⟩), .int .i64 12, .int .u32 m.line]) cf47 (msg_c hB 12 m.line (by omega)) ?_
 rintro v w19 ⟨rfl, hN20⟩
 intro a fr
 refine fx_build1 (E := msgE) (p := (mkM 12 id 4 m.line)) elMsg (by decide) fr rfl rfl (by decide) rfl (fr.ev rfl) ?_
 clear fr a
 intro A21 w22 hN23 O24 hA25
 replace hF := (hF.locP hN18 gA_FpL).trNew hN20
 have gN_A21 := fun g (hg : inA A21 g) => Nat.le_trans hF.size (hA25 g hg)
 refine Zar ?_
 refine Zre rfl [_] ⟨rfl, trivial⟩ ?_
 replace hA := ((hA.only hN18 (fun g h1 h2 => (symP ap2_FpL_FpA) g h1 h2)).new hN20).new hN23
 replace hG := ((hG.only hN18 (fun g h1 h2 => (symP ap2_FpL_FpG) g h1 h2)).new hN20).new hN23
 replace hB := (hB.new hN20).new hN23
 replace H15 := (H15.new hN20).new hN23
 replace hF := hF.trNew hN23
 exact ⟨_, rfl, A21, 1, rfl, O24, gN_A21, (fun k => k = b ∨ Fp14 k ∨ FpA k ∨ FpG k), ⟨lb, Fp14, _, _, FpA, FpG, hB, H15, hA, hG, ⟨ap_Fp14_b, ap_FpA_b, ap_FpG_b, ap2_Fp14_FpA, ap2_Fp14_FpG, ap2_FpA_FpG, fun _ => Iff.rfl⟩⟩, hF, (fun g hg => hg.elim (fun e => by rw [e]; exact .inl ((hP.foot b).2 (.inl rfl))) fun h => h.elim (gA_Fp14 g) fun h => h.elim (gA_FpA g) (gA_FpG g))⟩
theorem drop_no {w : World} {Fp : Nat → Prop} {b : Nat} {id : Int} {n : Nat} {ways : Int} {L : List Ln} {ask : Option (Int × Bool)} {giv : Option Ln} (H : CacheAt w Fp b ⟨id, n, ways, L, ask, giv⟩) (m : Msg) (hw : writesB (stateOf L m.line) = true) : Calls Try.prog 52 #[.pointer (some ⟨b, 0, none⟩), .agg (msgE.arr m)] w (Pan fun c w' => c = stopE 220 ∧ New w w') := by
 obtain ⟨lb, FpL, pa, pg, FpA, FpG, hB, hL, hA, hG, hP⟩ := H
 dsimp only at hB hL hA hG
 have ap_FpL_b := hP.lb
 obtain ⟨hn1, hn2, hw1, hw2⟩ := hL.bd
 have hmn := m.hn
 have hF := Only.refl (fun _ => False) w
 refine Zen 24 Try.func52 ?_
 refine Zsr ?_
 refine Znb (cs := msgE.arr m) fun b1 w2 hN3 B4 hb5 => ?_
 refine Zan ?_
 refine Zsm ?_
 refine Zf fo35_3 ?_
 refine Zd (v := .int .u32 m.line) pl32 (B4.cell 3 rfl) ?_
 replace hB := hB.new hN3
 replace hL := hL.new hN3
 refine Zk (args := #[.pointer (some ⟨b, 0, none⟩), .int .u32 m.line]) cf34 (state_c m.line (by omega) hB hL ap_FpL_b) ?_
 rintro v w6 ⟨rfl, hN7⟩
 refine Zk cf44 (writes_c (stateOf L m.line) _) ?_
 rintro v _ ⟨rfl, hw9⟩
 obtain rfl := hw9.symm
 intro a fr
 rw [hw] at fr
 revert a
 refine Zv (.bool false) (fun _ fr => x_not rfl (fr.ev rfl) rfl) ?_
 intro a fr
 refine fx_callp rfl (x_call (vs := [.bool false, .int .i64 220]) rfl rfl ⟨(fr.ev rfl), rfl, trivial⟩ Try.func78 nm78 rfl) (must_no 220 _) ?_
 rintro _ _ ⟨rfl, rfl⟩
 refine fx_pt ?_
 refine fx_pend fr ?_
 replace hF := (hF.trNew hN3).trNew hN7
 exact ⟨_, rfl, rfl, hF⟩
theorem acked_ok {w : World} {Fp : Nat → Prop} {b : Nat} {id : Int} {n : Nat} {ways : Int} {L : List Ln} {ask : Option (Int × Bool)} {gx : Ln} (H : CacheAt w Fp b ⟨id, n, ways, L, ask, (some gx)⟩) (m : Msg) (hg : gx.num = m.line) : Calls Try.prog 53 #[.pointer (some ⟨b, 0, none⟩), .agg (msgE.arr m)] w (Ret fun v w' => ∃ A' cap', v = .slice A' (([] : List Msg)).length cap' ∧ Own msgE w' A' cap' (([] : List Msg)) ∧ (∀ g, inA A' g → w.heap.size ≤ g) ∧ ∃ Fp', CacheAt w' Fp' b ⟨id, n, ways, L, ask, none⟩ ∧ Only Fp w w' ∧ ∀ g, Fp' g → Fp g ∨ w.heap.size ≤ g) := by
 obtain ⟨lb, FpL, pa, pg, FpA, FpG, hB, hL, hA, hG, hP⟩ := H
 dsimp only at hB hL hA hG
 have ap_FpL_b := hP.lb
 have ap_FpA_b := hP.ab
 have ap2_FpL_FpA := hP.la
 obtain ⟨hn1, hn2, hw1, hw2⟩ := hL.bd
 have gA_FpL : ∀ g, FpL g → Fp g ∨ w.heap.size ≤ g := fun g hg => .inl ((hP.foot g).2 (.inr (.inl hg)))
 have gA_FpA : ∀ g, FpA g → Fp g ∨ w.heap.size ≤ g := fun g hg => .inl ((hP.foot g).2 (.inr (.inr (.inl hg))))
 have gA_FpG : ∀ g, FpG g → Fp g ∨ w.heap.size ≤ g := fun g hg => .inl ((hP.foot g).2 (.inr (.inr (.inr hg))))
 have hmn := m.hn
 have hF := Only.refl (Fp) w
 refine Zen 26 Try.func53 ?_
 refine Zsr ?_
 refine Znb (cs := msgE.arr m) fun b1 w2 hN3 B4 hb5 => ?_
 refine Zaq ?_
 replace hG := hG.new hN3
 obtain ⟨bg, rfl, hGB, hGF⟩ := hG
 have gi_bg := gA_FpG bg ((hGF bg).2 rfl)
 refine Zhd (n := 18) (fun w => Blk w b 83 #[.int .i64 id, .pointer (some ⟨lb, 0, none⟩), pa, .pointer (some ⟨bg, 0, none⟩)] ∧ Blk w b1 35 (msgE.arr m) ∧ Blk w bg 39 (lnE.arr gx) ∧ True) ?_
 intro w6 hN7
 replace hB := (hB.new hN3).new hN7
 replace B4 := B4.new hN7
 replace hGB := hGB.new hN7
 have hS9 := And.intro hB (And.intro B4 (And.intro hGB trivial))
 refine Zhm 0 hS9 ?_
 refine Zhc 1 hS9 ?_
 refine Zhf 2 fo83_3 hS9 ?_
 refine Zhl 3 pl81 hS9 (fun _ ⟨hB, _⟩ => (hB.cell 3 rfl)) ?_
 refine Zht 4 rfl (.bool true) hS9 (fun _ fr _ _ => x_pneq Try.underlying81 rfl (fr.ev rfl) rfl rfl) ?_
 refine Zhm 5 hS9 ?_
 refine Zhm 6 hS9 ?_
 refine Zhc 7 hS9 ?_
 refine Zhf 8 fo83_3 hS9 ?_
 refine Zhl 9 pl81 hS9 (fun _ ⟨hB, _⟩ => (hB.cell 3 rfl)) ?_
 refine Zhc 10 hS9 ?_
 refine Zhf 11 fo39_0 hS9 ?_
 refine Zhl (v := .int .u32 gx.num) 12 pl32 hS9 (fun _ ⟨_, _, hGB, _⟩ => (hGB.cell 0 rfl)) ?_
 refine Zhf 13 fo35_3 hS9 ?_
 refine Zhl (v := .int .u32 m.line) 14 pl32 hS9 (fun _ ⟨_, B4, _⟩ => (B4.cell 3 rfl)) ?_
 refine Zht 15 rfl (.bool true) hS9 (fun _ fr _ _ => x_eql rfl (fr.ev rfl) (fr.ev rfl) (decide_eq_true hg)) ?_
 refine Zht 16 rfl (.bool true) hS9 (fun _ fr _ _ => x_pick_t rfl (fr.ev rfl) (fr.ev rfl)) ?_
 refine Zh1 17 ?_
 refine Zk cf78 (must_ok 220 _) ?_
 rintro v w9 ⟨rfl, hw9⟩
 obtain rfl := hw9.symm
 refine Zhb ⟨hB, B4, hGB, trivial⟩ ?_
 refine Zhn ?_
 refine Znx ?_
 refine Zsm ?_
 refine Zn ?_
 refine Zf fo83_3 ?_
 refine Zs1 (cs' := #[.int .i64 id, .pointer (some ⟨lb, 0, none⟩), pa, .pointer none]) sz81 hB (show 3 < 4 by decide) rfl fun w10 hO11 hB => ?_
 refine Znn ?_
 refine Zsr ?_
 refine Zar ?_
 refine Zre rfl [_] ⟨rfl, trivial⟩ ?_
 replace hL := ((hL.new hN3).new hN7).only hO11 (ne1P ap_FpL_b)
 replace hA := ((hA.new hN3).new hN7).only hO11 (ne1P ap_FpA_b)
 replace hF := ((hF.trNew hN3).trNew hN7).loc hO11 (.inl ((hP.foot b).2 (.inl rfl)))
 exact ⟨_, rfl, none, 0, rfl, Own.nil, (fun g hg => absurd hg (apart_none g)), (fun k => k = b ∨ FpL k ∨ FpA k ∨ (fun _ => False) k), ⟨lb, FpL, _, _, FpA, (fun _ => False), hB, hL, hA, ⟨rfl, fun _ h => h⟩, ⟨ap_FpL_b, ap_FpA_b, (fun h => h), ap2_FpL_FpA, (fun _ _ h => h), (fun _ _ h => h), fun _ => Iff.rfl⟩⟩, hF, (fun g hg => hg.elim (fun e => by rw [e]; exact .inl ((hP.foot b).2 (.inl rfl))) fun h => h.elim (gA_FpL g) fun h => h.elim (gA_FpA g) (fun h => h.elim))⟩
theorem acked_ne {w : World} {Fp : Nat → Prop} {b : Nat} {id : Int} {n : Nat} {ways : Int} {L : List Ln} {ask : Option (Int × Bool)} {gx : Ln} (H : CacheAt w Fp b ⟨id, n, ways, L, ask, (some gx)⟩) (m : Msg) (hg : ¬ gx.num = m.line) : Calls Try.prog 53 #[.pointer (some ⟨b, 0, none⟩), .agg (msgE.arr m)] w (Pan fun c w' => c = stopE 220 ∧ New w w') := by
 obtain ⟨lb, FpL, pa, pg, FpA, FpG, hB, hL, hA, hG, hP⟩ := H
 dsimp only at hB hL hA hG
 obtain ⟨hn1, hn2, hw1, hw2⟩ := hL.bd
 have hmn := m.hn
 have gA_FpG := fun g (hg : FpG g) => (Or.inl trivial : True ∨ w.heap.size ≤ g)
 have hF := Only.refl (fun _ => False) w
 refine Zen 26 Try.func53 ?_
 refine Zsr ?_
 refine Znb (cs := msgE.arr m) fun b1 w2 hN3 B4 hb5 => ?_
 refine Zaq ?_
 replace hG := hG.new hN3
 obtain ⟨bg, rfl, hGB, hGF⟩ := hG
 have gi_bg := gA_FpG bg ((hGF bg).2 rfl)
 refine Zhd (n := 18) (fun w => Blk w b 83 #[.int .i64 id, .pointer (some ⟨lb, 0, none⟩), pa, .pointer (some ⟨bg, 0, none⟩)] ∧ Blk w b1 35 (msgE.arr m) ∧ Blk w bg 39 (lnE.arr gx) ∧ True) ?_
 intro w6 hN7
 replace hB := (hB.new hN3).new hN7
 replace B4 := B4.new hN7
 replace hGB := hGB.new hN7
 have hS9 := And.intro hB (And.intro B4 (And.intro hGB trivial))
 refine Zhm 0 hS9 ?_
 refine Zhc 1 hS9 ?_
 refine Zhf 2 fo83_3 hS9 ?_
 refine Zhl 3 pl81 hS9 (fun _ ⟨hB, _⟩ => (hB.cell 3 rfl)) ?_
 refine Zht 4 rfl (.bool true) hS9 (fun _ fr _ _ => x_pneq Try.underlying81 rfl (fr.ev rfl) rfl rfl) ?_
 refine Zhm 5 hS9 ?_
 refine Zhm 6 hS9 ?_
 refine Zhc 7 hS9 ?_
 refine Zhf 8 fo83_3 hS9 ?_
 refine Zhl 9 pl81 hS9 (fun _ ⟨hB, _⟩ => (hB.cell 3 rfl)) ?_
 refine Zhc 10 hS9 ?_
 refine Zhf 11 fo39_0 hS9 ?_
 refine Zhl (v := .int .u32 gx.num) 12 pl32 hS9 (fun _ ⟨_, _, hGB, _⟩ => (hGB.cell 0 rfl)) ?_
 refine Zhf 13 fo35_3 hS9 ?_
 refine Zhl (v := .int .u32 m.line) 14 pl32 hS9 (fun _ ⟨_, B4, _⟩ => (B4.cell 3 rfl)) ?_
 refine Zht 15 rfl (.bool false) hS9 (fun _ fr _ _ => x_eql rfl (fr.ev rfl) (fr.ev rfl) (decide_eq_false hg)) ?_
 refine Zht 16 rfl (.bool false) hS9 (fun _ fr _ _ => x_pick_t rfl (fr.ev rfl) (fr.ev rfl)) ?_
 refine Zh1 17 ?_
 intro a fr
 refine fx_callp rfl (x_call (vs := [.bool false, .int .i64 220]) rfl rfl ⟨(fr.ev rfl), rfl, trivial⟩ Try.func78 nm78 rfl) (must_no 220 _) ?_
 rintro _ _ ⟨rfl, rfl⟩
 refine Zhp ?_
 refine fx_pt ?_
 refine fx_pend fr ?_
 replace hF := (hF.trNew hN3).trNew hN7
 exact ⟨_, rfl, rfl, hF⟩
theorem acked_none {w : World} {Fp : Nat → Prop} {b : Nat} {id : Int} {n : Nat} {ways : Int} {L : List Ln} {ask : Option (Int × Bool)} (H : CacheAt w Fp b ⟨id, n, ways, L, ask, none⟩) (m : Msg)  : Calls Try.prog 53 #[.pointer (some ⟨b, 0, none⟩), .agg (msgE.arr m)] w (Pan fun c w' => c = stopE 220 ∧ New w w') := by
 obtain ⟨lb, FpL, pa, pg, FpA, FpG, hB, hL, hA, hG, hP⟩ := H
 dsimp only at hB hL hA hG
 obtain ⟨hn1, hn2, hw1, hw2⟩ := hL.bd
 have hmn := m.hn
 have hF := Only.refl (fun _ => False) w
 refine Zen 26 Try.func53 ?_
 refine Zsr ?_
 refine Znb (cs := msgE.arr m) fun b1 w2 hN3 B4 hb5 => ?_
 refine Zaq ?_
 replace hG := hG.new hN3
 obtain ⟨rfl, hG0⟩ := hG
 refine Zhd (n := 18) (fun w => Blk w b 83 #[.int .i64 id, .pointer (some ⟨lb, 0, none⟩), pa, .pointer none] ∧ True) ?_
 intro w6 hN7
 replace hB := (hB.new hN3).new hN7
 have hS9 := And.intro hB trivial
 refine Zhm 0 hS9 ?_
 refine Zhc 1 hS9 ?_
 refine Zhf 2 fo83_3 hS9 ?_
 refine Zhl 3 pl81 hS9 (fun _ ⟨hB, _⟩ => (hB.cell 3 rfl)) ?_
 refine Zht 4 rfl (.bool false) hS9 (fun _ fr _ _ => x_pneq Try.underlying81 rfl (fr.ev rfl) rfl rfl) ?_
 refine Zhm 5 hS9 ?_
 refine Zhs 6 hS9 ?_
 refine Zhs 7 hS9 ?_
 refine Zhs 8 hS9 ?_
 refine Zhs 9 hS9 ?_
 refine Zhs 10 hS9 ?_
 refine Zhs 11 hS9 ?_
 refine Zhs 12 hS9 ?_
 refine Zhs 13 hS9 ?_
 refine Zhs 14 hS9 ?_
 refine Zhs 15 hS9 ?_
 refine Zht 16 rfl (.bool false) hS9 (fun _ fr _ _ => x_pick_f rfl (fr.ev rfl) rfl) ?_
 refine Zh1 17 ?_
 intro a fr
 refine fx_callp rfl (x_call (vs := [.bool false, .int .i64 220]) rfl rfl ⟨(fr.ev rfl), rfl, trivial⟩ Try.func78 nm78 rfl) (must_no 220 _) ?_
 rintro _ _ ⟨rfl, rfl⟩
 refine Zhp ?_
 refine fx_pt ?_
 refine fx_pend fr ?_
 replace hF := (hF.trNew hN3).trNew hN7
 exact ⟨_, rfl, rfl, hF⟩
theorem data_none {w : World} {Fp : Nat → Prop} {b : Nat} {id : Int} {n : Nat} {ways : Int} {L : List Ln} {giv : Option Ln} (H : CacheAt w Fp b ⟨id, n, ways, L, none, giv⟩) (m : Msg)  : Calls Try.prog 50 #[.pointer (some ⟨b, 0, none⟩), .agg (msgE.arr m)] w (Pan fun c w' => c = stopE 220 ∧ New w w') := by
 obtain ⟨lb, FpL, pa, pg, FpA, FpG, hB, hL, hA, hG, hP⟩ := H
 dsimp only at hB hL hA hG
 obtain ⟨hn1, hn2, hw1, hw2⟩ := hL.bd
 have hmn := m.hn
 have hF := Only.refl (fun _ => False) w
 refine Zen 61 Try.func50 ?_
 refine Zsr ?_
 refine Znb (cs := msgE.arr m) fun b1 w2 hN3 B4 hb5 => ?_
 refine Zaq ?_
 replace hA := hA.new hN3
 obtain ⟨rfl, hA0⟩ := hA
 refine Zhd (n := 31) (fun w => Blk w b 83 #[.int .i64 id, .pointer (some ⟨lb, 0, none⟩), .pointer none, pg] ∧ True) ?_
 intro w6 hN7
 replace hB := (hB.new hN3).new hN7
 have hS9 := And.intro hB trivial
 refine Zhm 0 hS9 ?_
 refine Zhc 1 hS9 ?_
 refine Zhf 2 fo83_2 hS9 ?_
 refine Zhl 3 pl80 hS9 (fun _ ⟨hB, _⟩ => (hB.cell 2 rfl)) ?_
 refine Zht 4 rfl (.bool false) hS9 (fun _ fr _ _ => x_pneq Try.underlying80 rfl (fr.ev rfl) rfl rfl) ?_
 refine Zhm 5 hS9 ?_
 refine Zhs 6 hS9 ?_
 refine Zhs 7 hS9 ?_
 refine Zhs 8 hS9 ?_
 refine Zhs 9 hS9 ?_
 refine Zhs 10 hS9 ?_
 refine Zhs 11 hS9 ?_
 refine Zhs 12 hS9 ?_
 refine Zhs 13 hS9 ?_
 refine Zhs 14 hS9 ?_
 refine Zhs 15 hS9 ?_
 refine Zht 16 rfl (.bool false) hS9 (fun _ fr _ _ => x_pick_f rfl (fr.ev rfl) rfl) ?_
 refine Zhm 17 hS9 ?_
 refine Zhs 18 hS9 ?_
 refine Zhs 19 hS9 ?_
 refine Zhs 20 hS9 ?_
 refine Zhs 21 hS9 ?_
 refine Zhs 22 hS9 ?_
 refine Zhs 23 hS9 ?_
 refine Zhs 24 hS9 ?_
 refine Zhs 25 hS9 ?_
 refine Zhs 26 hS9 ?_
 refine Zhs 27 hS9 ?_
 refine Zhs 28 hS9 ?_
 refine Zht 29 rfl (.bool false) hS9 (fun _ fr _ _ => x_pick_f rfl (fr.ev rfl) rfl) ?_
 refine Zh1 30 ?_
 intro a fr
 refine fx_callp rfl (x_call (vs := [.bool false, .int .i64 220]) rfl rfl ⟨(fr.ev rfl), rfl, trivial⟩ Try.func78 nm78 rfl) (must_no 220 _) ?_
 rintro _ _ ⟨rfl, rfl⟩
 refine Zhp ?_
 refine fx_pt ?_
 refine fx_pend fr ?_
 replace hF := (hF.trNew hN3).trNew hN7
 exact ⟨_, rfl, rfl, hF⟩
theorem data_ne {w : World} {Fp : Nat → Prop} {b : Nat} {id : Int} {n : Nat} {ways : Int} {L : List Ln} {al : Int} {aw : Bool} {giv : Option Ln} (H : CacheAt w Fp b ⟨id, n, ways, L, (some (al, aw)), giv⟩) (m : Msg) (ha : ¬ al = m.line) : Calls Try.prog 50 #[.pointer (some ⟨b, 0, none⟩), .agg (msgE.arr m)] w (Pan fun c w' => c = stopE 220 ∧ New w w') := by
 obtain ⟨lb, FpL, pa, pg, FpA, FpG, hB, hL, hA, hG, hP⟩ := H
 dsimp only at hB hL hA hG
 obtain ⟨hn1, hn2, hw1, hw2⟩ := hL.bd
 have hmn := m.hn
 have gA_FpA := fun g (hg : FpA g) => (Or.inl trivial : True ∨ w.heap.size ≤ g)
 have hF := Only.refl (fun _ => False) w
 refine Zen 61 Try.func50 ?_
 refine Zsr ?_
 refine Znb (cs := msgE.arr m) fun b1 w2 hN3 B4 hb5 => ?_
 refine Zaq ?_
 replace hA := hA.new hN3
 obtain ⟨ba, rfl, hAB, hAF, hal⟩ := hA
 have gi_ba := gA_FpA ba ((hAF ba).2 rfl)
 refine Zhd (n := 31) (fun w => Blk w b 83 #[.int .i64 id, .pointer (some ⟨lb, 0, none⟩), .pointer (some ⟨ba, 0, none⟩), pg] ∧ Blk w b1 35 (msgE.arr m) ∧ Blk w ba 109 (#[.int .u32 al, .bool aw]) ∧ True) ?_
 intro w6 hN7
 replace hB := (hB.new hN3).new hN7
 replace B4 := B4.new hN7
 replace hAB := hAB.new hN7
 have hS9 := And.intro hB (And.intro B4 (And.intro hAB trivial))
 refine Zhm 0 hS9 ?_
 refine Zhc 1 hS9 ?_
 refine Zhf 2 fo83_2 hS9 ?_
 refine Zhl 3 pl80 hS9 (fun _ ⟨hB, _⟩ => (hB.cell 2 rfl)) ?_
 refine Zht 4 rfl (.bool true) hS9 (fun _ fr _ _ => x_pneq Try.underlying80 rfl (fr.ev rfl) rfl rfl) ?_
 refine Zhm 5 hS9 ?_
 refine Zhm 6 hS9 ?_
 refine Zhc 7 hS9 ?_
 refine Zhf 8 fo83_2 hS9 ?_
 refine Zhl 9 pl80 hS9 (fun _ ⟨hB, _⟩ => (hB.cell 2 rfl)) ?_
 refine Zhc 10 hS9 ?_
 refine Zhf 11 fo109_0 hS9 ?_
 refine Zhl (v := .int .u32 al) 12 pl32 hS9 (fun _ ⟨_, _, hAB, _⟩ => (hAB.cell 0 rfl)) ?_
 refine Zhf 13 fo35_3 hS9 ?_
 refine Zhl (v := .int .u32 m.line) 14 pl32 hS9 (fun _ ⟨_, B4, _⟩ => (B4.cell 3 rfl)) ?_
 refine Zht 15 rfl (.bool false) hS9 (fun _ fr _ _ => x_eql rfl (fr.ev rfl) (fr.ev rfl) (decide_eq_false ha)) ?_
 refine Zht 16 rfl (.bool false) hS9 (fun _ fr _ _ => x_pick_t rfl (fr.ev rfl) (fr.ev rfl)) ?_
 refine Zhm 17 hS9 ?_
 refine Zhs 18 hS9 ?_
 refine Zhs 19 hS9 ?_
 refine Zhs 20 hS9 ?_
 refine Zhs 21 hS9 ?_
 refine Zhs 22 hS9 ?_
 refine Zhs 23 hS9 ?_
 refine Zhs 24 hS9 ?_
 refine Zhs 25 hS9 ?_
 refine Zhs 26 hS9 ?_
 refine Zhs 27 hS9 ?_
 refine Zhs 28 hS9 ?_
 refine Zht 29 rfl (.bool false) hS9 (fun _ fr _ _ => x_pick_f rfl (fr.ev rfl) rfl) ?_
 refine Zh1 30 ?_
 intro a fr
 refine fx_callp rfl (x_call (vs := [.bool false, .int .i64 220]) rfl rfl ⟨(fr.ev rfl), rfl, trivial⟩ Try.func78 nm78 rfl) (must_no 220 _) ?_
 rintro _ _ ⟨rfl, rfl⟩
 refine Zhp ?_
 refine fx_pt ?_
 refine fx_pend fr ?_
 replace hF := (hF.trNew hN3).trNew hN7
 exact ⟨_, rfl, rfl, hF⟩
theorem data_w {w : World} {Fp : Nat → Prop} {b : Nat} {id : Int} {n : Nat} {ways : Int} {L : List Ln} {al : Int} {aw : Bool} {giv : Option Ln} (H : CacheAt w Fp b ⟨id, n, ways, L, (some (al, aw)), giv⟩) (m : Msg) (ha : al = m.line) (hw : (aw == decide (m.kind = 10)) = false) : Calls Try.prog 50 #[.pointer (some ⟨b, 0, none⟩), .agg (msgE.arr m)] w (Pan fun c w' => c = stopE 220 ∧ New w w') := by
 obtain ⟨lb, FpL, pa, pg, FpA, FpG, hB, hL, hA, hG, hP⟩ := H
 dsimp only at hB hL hA hG
 obtain ⟨hn1, hn2, hw1, hw2⟩ := hL.bd
 have hmn := m.hn
 have gA_FpA := fun g (hg : FpA g) => (Or.inl trivial : True ∨ w.heap.size ≤ g)
 have hF := Only.refl (fun _ => False) w
 refine Zen 61 Try.func50 ?_
 refine Zsr ?_
 refine Znb (cs := msgE.arr m) fun b1 w2 hN3 B4 hb5 => ?_
 refine Zaq ?_
 replace hA := hA.new hN3
 obtain ⟨ba, rfl, hAB, hAF, hal⟩ := hA
 have gi_ba := gA_FpA ba ((hAF ba).2 rfl)
 refine Zhd (n := 31) (fun w => Blk w b 83 #[.int .i64 id, .pointer (some ⟨lb, 0, none⟩), .pointer (some ⟨ba, 0, none⟩), pg] ∧ Blk w b1 35 (msgE.arr m) ∧ Blk w ba 109 (#[.int .u32 al, .bool aw]) ∧ True) ?_
 intro w6 hN7
 replace hB := (hB.new hN3).new hN7
 replace B4 := B4.new hN7
 replace hAB := hAB.new hN7
 have hS9 := And.intro hB (And.intro B4 (And.intro hAB trivial))
 refine Zhm 0 hS9 ?_
 refine Zhc 1 hS9 ?_
 refine Zhf 2 fo83_2 hS9 ?_
 refine Zhl 3 pl80 hS9 (fun _ ⟨hB, _⟩ => (hB.cell 2 rfl)) ?_
 refine Zht 4 rfl (.bool true) hS9 (fun _ fr _ _ => x_pneq Try.underlying80 rfl (fr.ev rfl) rfl rfl) ?_
 refine Zhm 5 hS9 ?_
 refine Zhm 6 hS9 ?_
 refine Zhc 7 hS9 ?_
 refine Zhf 8 fo83_2 hS9 ?_
 refine Zhl 9 pl80 hS9 (fun _ ⟨hB, _⟩ => (hB.cell 2 rfl)) ?_
 refine Zhc 10 hS9 ?_
 refine Zhf 11 fo109_0 hS9 ?_
 refine Zhl (v := .int .u32 al) 12 pl32 hS9 (fun _ ⟨_, _, hAB, _⟩ => (hAB.cell 0 rfl)) ?_
 refine Zhf 13 fo35_3 hS9 ?_
 refine Zhl (v := .int .u32 m.line) 14 pl32 hS9 (fun _ ⟨_, B4, _⟩ => (B4.cell 3 rfl)) ?_
 refine Zht 15 rfl (.bool true) hS9 (fun _ fr _ _ => x_eql rfl (fr.ev rfl) (fr.ev rfl) (decide_eq_true ha)) ?_
 refine Zht 16 rfl (.bool true) hS9 (fun _ fr _ _ => x_pick_t rfl (fr.ev rfl) (fr.ev rfl)) ?_
 refine Zhm 17 hS9 ?_
 refine Zhm 18 hS9 ?_
 refine Zhc 19 hS9 ?_
 refine Zhf 20 fo83_2 hS9 ?_
 refine Zhl 21 pl80 hS9 (fun _ ⟨hB, _⟩ => (hB.cell 2 rfl)) ?_
 refine Zhc 22 hS9 ?_
 refine Zhf 23 fo109_1 hS9 ?_
 refine Zhl (v := .bool aw) 24 pl4 hS9 (fun _ ⟨_, _, hAB, _⟩ => (hAB.cell 1 rfl)) ?_
 refine Zhf 25 fo35_0 hS9 ?_
 refine Zhl (v := .int .i64 m.kind) 26 pl33 hS9 (fun _ ⟨_, B4, _⟩ => (B4.cell 0 rfl)) ?_
 refine Zht 27 rfl _ hS9 (fun _ fr _ _ => x_eql rfl (fr.ev rfl) rfl rfl) ?_
 refine Zht 28 rfl (.bool false) hS9 (fun _ fr _ _ => x_beql Try.underlying4 rfl (fr.ev rfl) (fr.ev rfl) hw) ?_
 refine Zht 29 rfl (.bool false) hS9 (fun _ fr _ _ => x_pick_t rfl (fr.ev rfl) (fr.ev rfl)) ?_
 refine Zh1 30 ?_
 intro a fr
 refine fx_callp rfl (x_call (vs := [.bool false, .int .i64 220]) rfl rfl ⟨(fr.ev rfl), rfl, trivial⟩ Try.func78 nm78 rfl) (must_no 220 _) ?_
 rintro _ _ ⟨rfl, rfl⟩
 refine Zhp ?_
 refine fx_pt ?_
 refine fx_pend fr ?_
 replace hF := (hF.trNew hN3).trNew hN7
 exact ⟨_, rfl, rfl, hF⟩
theorem data_s {w : World} {Fp : Nat → Prop} {b : Nat} {id : Int} {n : Nat} {ways : Int} {L : List Ln} {al : Int} {aw : Bool} {giv : Option Ln} (H : CacheAt w Fp b ⟨id, n, ways, L, (some (al, aw)), giv⟩) (m : Msg) (ha : al = m.line) (hw : (aw == false) = true) (hk : m.kind = 8) (hp : putE n ways L (mkL m.line 1 m.bs m.hn) = 0) : Calls Try.prog 50 #[.pointer (some ⟨b, 0, none⟩), .agg (msgE.arr m)] w (Ret fun v w' => ∃ A' cap', v = .slice A' ([mkM 13 id 4 m.line b16z m.hn]).length cap' ∧ Own msgE w' A' cap' ([mkM 13 id 4 m.line b16z m.hn]) ∧ (∀ g, inA A' g → w.heap.size ≤ g) ∧ ∃ Fp', CacheAt w' Fp' b ⟨id, n, ways, putL n ways L (mkL m.line 1 m.bs m.hn), none, giv⟩ ∧ Only Fp w w' ∧ ∀ g, Fp' g → Fp g ∨ w.heap.size ≤ g) := by
 obtain ⟨lb, FpL, pa, pg, FpA, FpG, hB, hL, hA, hG, hP⟩ := H
 dsimp only at hB hL hA hG
 have ap_FpL_b := hP.lb
 have ap_FpG_b := hP.gb
 have ap2_FpL_FpA := hP.la
 have ap2_FpL_FpG := hP.lg
 obtain ⟨hn1, hn2, hw1, hw2⟩ := hL.bd
 have gA_FpL : ∀ g, FpL g → Fp g ∨ w.heap.size ≤ g := fun g hg => .inl ((hP.foot g).2 (.inr (.inl hg)))
 have gA_FpA : ∀ g, FpA g → Fp g ∨ w.heap.size ≤ g := fun g hg => .inl ((hP.foot g).2 (.inr (.inr (.inl hg))))
 have gA_FpG : ∀ g, FpG g → Fp g ∨ w.heap.size ≤ g := fun g hg => .inl ((hP.foot g).2 (.inr (.inr (.inr hg))))
 have hmn := m.hn
 have hF := Only.refl (Fp) w
 refine Zen 61 Try.func50 ?_
 refine Zsr ?_
 refine Znb (cs := msgE.arr m) fun b1 w2 hN3 B4 hb5 => ?_
 have ne_b_b1 := nelt hB.lt hb5
 have ap_FpL_b1 := hL.apart hb5
 refine Zaq ?_
 replace hA := hA.new hN3
 obtain ⟨ba, rfl, hAB, hAF, hal⟩ := hA
 have ap_FpL_ba : ¬ FpL ba := fun h => ap2_FpL_FpA ba h ((hAF ba).2 rfl)
 have gi_ba := gA_FpA ba ((hAF ba).2 rfl)
 refine Zhd (n := 31) (fun w => Blk w b 83 #[.int .i64 id, .pointer (some ⟨lb, 0, none⟩), .pointer (some ⟨ba, 0, none⟩), pg] ∧ Blk w b1 35 (msgE.arr m) ∧ Blk w ba 109 (#[.int .u32 al, .bool aw]) ∧ True) ?_
 intro w6 hN7
 replace hB := (hB.new hN3).new hN7
 replace B4 := B4.new hN7
 replace hAB := hAB.new hN7
 have hS9 := And.intro hB (And.intro B4 (And.intro hAB trivial))
 refine Zhm 0 hS9 ?_
 refine Zhc 1 hS9 ?_
 refine Zhf 2 fo83_2 hS9 ?_
 refine Zhl 3 pl80 hS9 (fun _ ⟨hB, _⟩ => (hB.cell 2 rfl)) ?_
 refine Zht 4 rfl (.bool true) hS9 (fun _ fr _ _ => x_pneq Try.underlying80 rfl (fr.ev rfl) rfl rfl) ?_
 refine Zhm 5 hS9 ?_
 refine Zhm 6 hS9 ?_
 refine Zhc 7 hS9 ?_
 refine Zhf 8 fo83_2 hS9 ?_
 refine Zhl 9 pl80 hS9 (fun _ ⟨hB, _⟩ => (hB.cell 2 rfl)) ?_
 refine Zhc 10 hS9 ?_
 refine Zhf 11 fo109_0 hS9 ?_
 refine Zhl (v := .int .u32 al) 12 pl32 hS9 (fun _ ⟨_, _, hAB, _⟩ => (hAB.cell 0 rfl)) ?_
 refine Zhf 13 fo35_3 hS9 ?_
 refine Zhl (v := .int .u32 m.line) 14 pl32 hS9 (fun _ ⟨_, B4, _⟩ => (B4.cell 3 rfl)) ?_
 refine Zht 15 rfl (.bool true) hS9 (fun _ fr _ _ => x_eql rfl (fr.ev rfl) (fr.ev rfl) (decide_eq_true ha)) ?_
 refine Zht 16 rfl (.bool true) hS9 (fun _ fr _ _ => x_pick_t rfl (fr.ev rfl) (fr.ev rfl)) ?_
 refine Zhm 17 hS9 ?_
 refine Zhm 18 hS9 ?_
 refine Zhc 19 hS9 ?_
 refine Zhf 20 fo83_2 hS9 ?_
 refine Zhl 21 pl80 hS9 (fun _ ⟨hB, _⟩ => (hB.cell 2 rfl)) ?_
 refine Zhc 22 hS9 ?_
 refine Zhf 23 fo109_1 hS9 ?_
 refine Zhl (v := .bool aw) 24 pl4 hS9 (fun _ ⟨_, _, hAB, _⟩ => (hAB.cell 1 rfl)) ?_
 refine Zhf 25 fo35_0 hS9 ?_
 refine Zhl (v := .int .i64 m.kind) 26 pl33 hS9 (fun _ ⟨_, B4, _⟩ => (B4.cell 0 rfl)) ?_
 refine Zht 27 rfl (.bool false) hS9 (fun _ fr _ _ => x_eql rfl (fr.ev rfl) rfl (decide_eq_false (by omega))) ?_
 refine Zht 28 rfl (.bool true) hS9 (fun _ fr _ _ => x_beql Try.underlying4 rfl (fr.ev rfl) (fr.ev rfl) hw) ?_
 refine Zht 29 rfl (.bool true) hS9 (fun _ fr _ _ => x_pick_t rfl (fr.ev rfl) (fr.ev rfl)) ?_
 refine Zh1 30 ?_
 refine Zk cf78 (must_ok 220 _) ?_
 rintro v w9 ⟨rfl, hw9⟩
 obtain rfl := hw9.symm
 refine Zhb ⟨hB, B4, hAB, trivial⟩ ?_
 refine Zhn ?_
 refine Znx ?_
 refine Zsr ?_
 refine Zaq ?_
 refine Zsr ?_
 refine Zf fo35_0 ?_
 refine Zd (v := .int .i64 m.kind) pl33 (B4.cell 0 rfl) ?_
 refine Zv (.bool true) (fun _ fr => x_eql rfl (fr.ev rfl) rfl (decide_eq_true (by omega))) ?_
 refine Znt ?_
 refine Zrg ?_
 refine Zaq ?_
 refine Zhd (n := 13) (fun w => Blk w b 83 #[.int .i64 id, .pointer (some ⟨lb, 0, none⟩), .pointer (some ⟨ba, 0, none⟩), pg] ∧ Blk w b1 35 (msgE.arr m) ∧ Blk w ba 109 (#[.int .u32 al, .bool aw]) ∧ True) ?_
 intro w10 hN11
 replace hB := hB.new hN11
 replace B4 := B4.new hN11
 replace hAB := hAB.new hN11
 have hS9 := And.intro hB (And.intro B4 (And.intro hAB trivial))
 refine Zhm 0 hS9 ?_
 refine Zhc 1 hS9 ?_
 refine Zhf 2 fo83_1 hS9 ?_
 refine Zhl 3 pl79 hS9 (fun _ ⟨hB, _⟩ => (hB.cell 1 rfl)) ?_
 refine Zhf 4 fo35_3 hS9 ?_
 refine Zhl (v := .int .u32 m.line) 5 pl32 hS9 (fun _ ⟨_, B4, _⟩ => (B4.cell 3 rfl)) ?_
 refine Zhm 6 hS9 ?_
 refine Zhf 7 fo35_4 hS9 ?_
 refine ZhE (p := m.bs) 8 bsE ag22 hS9 (fun _ ⟨_, B4, _⟩ => (B4.part (msg_bs _))) ?_
 refine Zht 9 rfl (.agg (lnE.arr (mkL m.line 1 m.bs))) hS9 (fun a fr _ _ => x_build (cells := lnE.arr (mkL m.line 1 m.bs)) rfl (by simp only [List.map_toArray, List.map_cons, List.map_nil, show a.eval (.tmp 45) = .int .u32 m.line from fr.ev rfl, show a.eval (.tmp 46) = .int .i64 1 from fr.ev rfl, show a.eval (.tmp 48) = .agg (bsE.arr m.bs) from fr.ev rfl]; exact built_ln _ _ _ _)) ?_
 refine Zh1 10 ?_
 replace hL := ((hL.new hN3).new hN7).new hN11
 refine Zk cf56 (put_c (mkL m.line 1 m.bs) hL) ?_
 rintro v w15 ⟨rfl, Fp12, H13, hN16, mv14⟩
 have ap_Fp12_b : ¬ Fp12 b := moved_apartP mv14 ap_FpL_b hB.lt
 replace hG := ((hG.new hN3).new hN7).new hN11
 have ap2_Fp12_FpG : ∀ k, Fp12 k → FpG k → False := moved_apart2P mv14 ap2_FpL_FpG fun _ hg => hG.lt hg
 replace hF := ((hF.trNew hN3).trNew hN7).trNew hN11
 have gA_Fp12 := gA_movedP hF mv14 gA_FpL
 clear hL
 replace hB := hB.only hN16 ap_FpL_b
 replace B4 := B4.only hN16 ap_FpL_b1
 replace hAB := hAB.only hN16 ap_FpL_ba
 refine Zhb ⟨hB, B4, hAB, trivial⟩ ?_
 have hS9 := And.intro hB (And.intro B4 (And.intro hAB trivial))
 refine Zht 11 rfl (.bool true) hS9 (fun _ fr _ _ => x_eql rfl (fr.ev rfl) rfl (decide_eq_true (by omega))) ?_
 refine Zh1 12 ?_
 refine Zk cf78 (must_ok 220 _) ?_
 rintro v w9 ⟨rfl, hw9⟩
 obtain rfl := hw9.symm
 refine Zhb ⟨hB, B4, hAB, trivial⟩ ?_
 refine Zhn ?_
 refine Znx ?_
 refine Zsm ?_
 refine Zn ?_
 refine Zf fo83_2 ?_
 refine Zs1 (cs' := #[.int .i64 id, .pointer (some ⟨lb, 0, none⟩), .pointer none, pg]) sz80 hB (show 2 < 4 by decide) rfl fun w19 hO20 hB => ?_
 refine Znn ?_
 refine Zsm ?_
 refine Zf fo35_3 ?_
 replace B4 := B4.only hO20 ne_b_b1.symm
 refine Zd (v := .int .u32 m.line) pl32 (B4.cell 3 rfl) ?_
 refine Zk (args := #[.pointer (some ⟨b, 0, none⟩), .int .i64 13, .int .u32 m.line]) cf47 (msg_c hB 13 m.line (by omega)) ?_
 rintro v w21 ⟨rfl, hN22⟩
 intro a fr
 refine fx_build1 (E := msgE) (p := (mkM 13 id 4 m.line)) elMsg (by decide) fr rfl rfl (by decide) rfl (fr.ev rfl) ?_
 clear fr a
 intro A23 w24 hN25 O26 hA27
 replace hF := ((hF.locP hN16 gA_FpL).loc hO20 (.inl ((hP.foot b).2 (.inl rfl)))).trNew hN22
 have gN_A23 := fun g (hg : inA A23 g) => Nat.le_trans hF.size (hA27 g hg)
 refine Zar ?_
 refine Zre rfl [_] ⟨rfl, trivial⟩ ?_
 replace hG := (((hG.only hN16 (fun g h1 h2 => (symP ap2_FpL_FpG) g h1 h2)).only hO20 (ne1P ap_FpG_b)).new hN22).new hN25
 replace H13 := ((H13.only hO20 (ne1P ap_Fp12_b)).new hN22).new hN25
 replace hB := (hB.new hN22).new hN25
 replace hF := hF.trNew hN25
 exact ⟨_, rfl, A23, 1, rfl, O26, gN_A23, (fun k => k = b ∨ Fp12 k ∨ (fun _ => False) k ∨ FpG k), ⟨lb, Fp12, _, _, (fun _ => False), FpG, hB, H13, ⟨rfl, fun _ h => h⟩, hG, ⟨ap_Fp12_b, (fun h => h), ap_FpG_b, (fun _ _ h => h), ap2_Fp12_FpG, (fun _ h _ => h), fun _ => Iff.rfl⟩⟩, hF, (fun g hg => hg.elim (fun e => by rw [e]; exact .inl ((hP.foot b).2 (.inl rfl))) fun h => h.elim (gA_Fp12 g) fun h => h.elim (fun h => h.elim) (gA_FpG g))⟩
theorem data_e {w : World} {Fp : Nat → Prop} {b : Nat} {id : Int} {n : Nat} {ways : Int} {L : List Ln} {al : Int} {aw : Bool} {giv : Option Ln} (H : CacheAt w Fp b ⟨id, n, ways, L, (some (al, aw)), giv⟩) (m : Msg) (ha : al = m.line) (hw : (aw == decide (m.kind = 10)) = true) (hk : ¬ m.kind = 8) (hp : putE n ways L (mkL m.line 2 m.bs m.hn) = 0) : Calls Try.prog 50 #[.pointer (some ⟨b, 0, none⟩), .agg (msgE.arr m)] w (Ret fun v w' => ∃ A' cap', v = .slice A' ([mkM 13 id 4 m.line b16z m.hn]).length cap' ∧ Own msgE w' A' cap' ([mkM 13 id 4 m.line b16z m.hn]) ∧ (∀ g, inA A' g → w.heap.size ≤ g) ∧ ∃ Fp', CacheAt w' Fp' b ⟨id, n, ways, putL n ways L (mkL m.line 2 m.bs m.hn), none, giv⟩ ∧ Only Fp w w' ∧ ∀ g, Fp' g → Fp g ∨ w.heap.size ≤ g) := by
 obtain ⟨lb, FpL, pa, pg, FpA, FpG, hB, hL, hA, hG, hP⟩ := H
 dsimp only at hB hL hA hG
 have ap_FpL_b := hP.lb
 have ap_FpG_b := hP.gb
 have ap2_FpL_FpA := hP.la
 have ap2_FpL_FpG := hP.lg
 obtain ⟨hn1, hn2, hw1, hw2⟩ := hL.bd
 have gA_FpL : ∀ g, FpL g → Fp g ∨ w.heap.size ≤ g := fun g hg => .inl ((hP.foot g).2 (.inr (.inl hg)))
 have gA_FpA : ∀ g, FpA g → Fp g ∨ w.heap.size ≤ g := fun g hg => .inl ((hP.foot g).2 (.inr (.inr (.inl hg))))
 have gA_FpG : ∀ g, FpG g → Fp g ∨ w.heap.size ≤ g := fun g hg => .inl ((hP.foot g).2 (.inr (.inr (.inr hg))))
 have hmn := m.hn
 have hF := Only.refl (Fp) w
 refine Zen 61 Try.func50 ?_
 refine Zsr ?_
 refine Znb (cs := msgE.arr m) fun b1 w2 hN3 B4 hb5 => ?_
 have ne_b_b1 := nelt hB.lt hb5
 have ap_FpL_b1 := hL.apart hb5
 refine Zaq ?_
 replace hA := hA.new hN3
 obtain ⟨ba, rfl, hAB, hAF, hal⟩ := hA
 have ap_FpL_ba : ¬ FpL ba := fun h => ap2_FpL_FpA ba h ((hAF ba).2 rfl)
 have gi_ba := gA_FpA ba ((hAF ba).2 rfl)
 refine Zhd (n := 31) (fun w => Blk w b 83 #[.int .i64 id, .pointer (some ⟨lb, 0, none⟩), .pointer (some ⟨ba, 0, none⟩), pg] ∧ Blk w b1 35 (msgE.arr m) ∧ Blk w ba 109 (#[.int .u32 al, .bool aw]) ∧ True) ?_
 intro w6 hN7
 replace hB := (hB.new hN3).new hN7
 replace B4 := B4.new hN7
 replace hAB := hAB.new hN7
 have hS9 := And.intro hB (And.intro B4 (And.intro hAB trivial))
 refine Zhm 0 hS9 ?_
 refine Zhc 1 hS9 ?_
 refine Zhf 2 fo83_2 hS9 ?_
 refine Zhl 3 pl80 hS9 (fun _ ⟨hB, _⟩ => (hB.cell 2 rfl)) ?_
 refine Zht 4 rfl (.bool true) hS9 (fun _ fr _ _ => x_pneq Try.underlying80 rfl (fr.ev rfl) rfl rfl) ?_
 refine Zhm 5 hS9 ?_
 refine Zhm 6 hS9 ?_
 refine Zhc 7 hS9 ?_
 refine Zhf 8 fo83_2 hS9 ?_
 refine Zhl 9 pl80 hS9 (fun _ ⟨hB, _⟩ => (hB.cell 2 rfl)) ?_
 refine Zhc 10 hS9 ?_
 refine Zhf 11 fo109_0 hS9 ?_
 refine Zhl (v := .int .u32 al) 12 pl32 hS9 (fun _ ⟨_, _, hAB, _⟩ => (hAB.cell 0 rfl)) ?_
 refine Zhf 13 fo35_3 hS9 ?_
 refine Zhl (v := .int .u32 m.line) 14 pl32 hS9 (fun _ ⟨_, B4, _⟩ => (B4.cell 3 rfl)) ?_
 refine Zht 15 rfl (.bool true) hS9 (fun _ fr _ _ => x_eql rfl (fr.ev rfl) (fr.ev rfl) (decide_eq_true ha)) ?_
 refine Zht 16 rfl (.bool true) hS9 (fun _ fr _ _ => x_pick_t rfl (fr.ev rfl) (fr.ev rfl)) ?_
 refine Zhm 17 hS9 ?_
 refine Zhm 18 hS9 ?_
 refine Zhc 19 hS9 ?_
 refine Zhf 20 fo83_2 hS9 ?_
 refine Zhl 21 pl80 hS9 (fun _ ⟨hB, _⟩ => (hB.cell 2 rfl)) ?_
 refine Zhc 22 hS9 ?_
 refine Zhf 23 fo109_1 hS9 ?_
 refine Zhl (v := .bool aw) 24 pl4 hS9 (fun _ ⟨_, _, hAB, _⟩ => (hAB.cell 1 rfl)) ?_
 refine Zhf 25 fo35_0 hS9 ?_
 refine Zhl (v := .int .i64 m.kind) 26 pl33 hS9 (fun _ ⟨_, B4, _⟩ => (B4.cell 0 rfl)) ?_
 refine Zht 27 rfl _ hS9 (fun _ fr _ _ => x_eql rfl (fr.ev rfl) rfl rfl) ?_
 refine Zht 28 rfl (.bool true) hS9 (fun _ fr _ _ => x_beql Try.underlying4 rfl (fr.ev rfl) (fr.ev rfl) hw) ?_
 refine Zht 29 rfl (.bool true) hS9 (fun _ fr _ _ => x_pick_t rfl (fr.ev rfl) (fr.ev rfl)) ?_
 refine Zh1 30 ?_
 refine Zk cf78 (must_ok 220 _) ?_
 rintro v w9 ⟨rfl, hw9⟩
 obtain rfl := hw9.symm
 refine Zhb ⟨hB, B4, hAB, trivial⟩ ?_
 refine Zhn ?_
 refine Znx ?_
 refine Zsr ?_
 refine Zaq ?_
 refine Zsr ?_
 refine Zf fo35_0 ?_
 refine Zd (v := .int .i64 m.kind) pl33 (B4.cell 0 rfl) ?_
 refine Zv (.bool false) (fun _ fr => x_eql rfl (fr.ev rfl) rfl (decide_eq_false hk)) ?_
 refine Znf ?_
 refine Zkn ?_
 refine Zsq ?_
 refine Zhd (n := 13) (fun w => Blk w b 83 #[.int .i64 id, .pointer (some ⟨lb, 0, none⟩), .pointer (some ⟨ba, 0, none⟩), pg] ∧ Blk w b1 35 (msgE.arr m) ∧ Blk w ba 109 (#[.int .u32 al, .bool aw]) ∧ True) ?_
 intro w10 hN11
 replace hB := hB.new hN11
 replace B4 := B4.new hN11
 replace hAB := hAB.new hN11
 have hS9 := And.intro hB (And.intro B4 (And.intro hAB trivial))
 refine Zhm 0 hS9 ?_
 refine Zhc 1 hS9 ?_
 refine Zhf 2 fo83_1 hS9 ?_
 refine Zhl 3 pl79 hS9 (fun _ ⟨hB, _⟩ => (hB.cell 1 rfl)) ?_
 refine Zhf 4 fo35_3 hS9 ?_
 refine Zhl (v := .int .u32 m.line) 5 pl32 hS9 (fun _ ⟨_, B4, _⟩ => (B4.cell 3 rfl)) ?_
 refine Zhm 6 hS9 ?_
 refine Zhf 7 fo35_4 hS9 ?_
 refine ZhE (p := m.bs) 8 bsE ag22 hS9 (fun _ ⟨_, B4, _⟩ => (B4.part (msg_bs _))) ?_
 refine Zht 9 rfl (.agg (lnE.arr (mkL m.line 2 m.bs))) hS9 (fun a fr _ _ => x_build (cells := lnE.arr (mkL m.line 2 m.bs)) rfl (by simp only [List.map_toArray, List.map_cons, List.map_nil, show a.eval (.tmp 45) = .int .u32 m.line from fr.ev rfl, show a.eval (.tmp 46) = .int .i64 2 from fr.ev rfl, show a.eval (.tmp 48) = .agg (bsE.arr m.bs) from fr.ev rfl]; exact built_ln _ _ _ _)) ?_
 refine Zh1 10 ?_
 replace hL := ((hL.new hN3).new hN7).new hN11
 refine Zk cf56 (put_c (mkL m.line 2 m.bs) hL) ?_
 rintro v w15 ⟨rfl, Fp12, H13, hN16, mv14⟩
 have ap_Fp12_b : ¬ Fp12 b := moved_apartP mv14 ap_FpL_b hB.lt
 replace hG := ((hG.new hN3).new hN7).new hN11
 have ap2_Fp12_FpG : ∀ k, Fp12 k → FpG k → False := moved_apart2P mv14 ap2_FpL_FpG fun _ hg => hG.lt hg
 replace hF := ((hF.trNew hN3).trNew hN7).trNew hN11
 have gA_Fp12 := gA_movedP hF mv14 gA_FpL
 clear hL
 replace hB := hB.only hN16 ap_FpL_b
 replace B4 := B4.only hN16 ap_FpL_b1
 replace hAB := hAB.only hN16 ap_FpL_ba
 refine Zhb ⟨hB, B4, hAB, trivial⟩ ?_
 have hS9 := And.intro hB (And.intro B4 (And.intro hAB trivial))
 refine Zht 11 rfl (.bool true) hS9 (fun _ fr _ _ => x_eql rfl (fr.ev rfl) rfl (decide_eq_true (by omega))) ?_
 refine Zh1 12 ?_
 refine Zk cf78 (must_ok 220 _) ?_
 rintro v w9 ⟨rfl, hw9⟩
 obtain rfl := hw9.symm
 refine Zhb ⟨hB, B4, hAB, trivial⟩ ?_
 refine Zhn ?_
 refine Znx ?_
 refine Zsm ?_
 refine Zn ?_
 refine Zf fo83_2 ?_
 refine Zs1 (cs' := #[.int .i64 id, .pointer (some ⟨lb, 0, none⟩), .pointer none, pg]) sz80 hB (show 2 < 4 by decide) rfl fun w19 hO20 hB => ?_
 refine Znn ?_
 refine Zsm ?_
 refine Zf fo35_3 ?_
 replace B4 := B4.only hO20 ne_b_b1.symm
 refine Zd (v := .int .u32 m.line) pl32 (B4.cell 3 rfl) ?_
 refine Zk (args := #[.pointer (some ⟨b, 0, none⟩), .int .i64 13, .int .u32 m.line]) cf47 (msg_c hB 13 m.line (by omega)) ?_
 rintro v w21 ⟨rfl, hN22⟩
 intro a fr
 refine fx_build1 (E := msgE) (p := (mkM 13 id 4 m.line)) elMsg (by decide) fr rfl rfl (by decide) rfl (fr.ev rfl) ?_
 clear fr a
 intro A23 w24 hN25 O26 hA27
 replace hF := ((hF.locP hN16 gA_FpL).loc hO20 (.inl ((hP.foot b).2 (.inl rfl)))).trNew hN22
 have gN_A23 := fun g (hg : inA A23 g) => Nat.le_trans hF.size (hA27 g hg)
 refine Zar ?_
 refine Zre rfl [_] ⟨rfl, trivial⟩ ?_
 replace hG := (((hG.only hN16 (fun g h1 h2 => (symP ap2_FpL_FpG) g h1 h2)).only hO20 (ne1P ap_FpG_b)).new hN22).new hN25
 replace H13 := ((H13.only hO20 (ne1P ap_Fp12_b)).new hN22).new hN25
 replace hB := (hB.new hN22).new hN25
 replace hF := hF.trNew hN25
 exact ⟨_, rfl, A23, 1, rfl, O26, gN_A23, (fun k => k = b ∨ Fp12 k ∨ (fun _ => False) k ∨ FpG k), ⟨lb, Fp12, _, _, (fun _ => False), FpG, hB, H13, ⟨rfl, fun _ h => h⟩, hG, ⟨ap_Fp12_b, (fun h => h), ap_FpG_b, (fun _ _ h => h), ap2_Fp12_FpG, (fun _ h _ => h), fun _ => Iff.rfl⟩⟩, hF, (fun g hg => hg.elim (fun e => by rw [e]; exact .inl ((hP.foot b).2 (.inl rfl))) fun h => h.elim (gA_Fp12 g) fun h => h.elim (fun h => h.elim) (gA_FpG g))⟩
theorem back_sn {w : World} {Fp : Nat → Prop} {b : Nat} {id : Int} {n : Nat} {ways : Int} {L : List Ln} {ask : Option (Int × Bool)} (H : CacheAt w Fp b ⟨id, n, ways, L, ask, none⟩) (m : Msg) (hw : writesB (stateOf L m.line) = true) (hk : m.kind = 4) : Calls Try.prog 51 #[.pointer (some ⟨b, 0, none⟩), .agg (msgE.arr m)] w (Ret fun v w' => ∃ A' cap', v = .slice A' ([mkM 11 id 4 m.line ((getN L m.line).getD ln0).bs m.hn]).length cap' ∧ Own msgE w' A' cap' ([mkM 11 id 4 m.line ((getN L m.line).getD ln0).bs m.hn]) ∧ (∀ g, inA A' g → w.heap.size ≤ g) ∧ ∃ Fp', CacheAt w' Fp' b ⟨id, n, ways, putL n ways L { ((getN L m.line).getD ln0) with state := 1 }, ask, none⟩ ∧ Only Fp w w' ∧ ∀ g, Fp' g → Fp g ∨ w.heap.size ≤ g) := by
 obtain ⟨lb, FpL, pa, pg, FpA, FpG, hB, hL, hA, hG, hP⟩ := H
 dsimp only at hB hL hA hG
 have ap_FpL_b := hP.lb
 have ap_FpA_b := hP.ab
 have ap2_FpL_FpA := hP.la
 obtain ⟨hn1, hn2, hw1, hw2⟩ := hL.bd
 have gA_FpL : ∀ g, FpL g → Fp g ∨ w.heap.size ≤ g := fun g hg => .inl ((hP.foot g).2 (.inr (.inl hg)))
 have gA_FpA : ∀ g, FpA g → Fp g ∨ w.heap.size ≤ g := fun g hg => .inl ((hP.foot g).2 (.inr (.inr (.inl hg))))
 have hmn := m.hn
 have hw' : writesB (((getN L m.line).getD ln0).state) = true := hw
 have hxn := ((getN L m.line).getD ln0).hn
 have hF := Only.refl (Fp) w
 refine Zen 75 Try.func51 ?_
 refine Zsr ?_
 refine Znb (cs := msgE.arr m) fun b1 w2 hN3 B4 hb5 => ?_
 refine Zan ?_
 refine Zsm ?_
 refine Zf fo35_3 ?_
 refine Zd (v := .int .u32 m.line) pl32 (B4.cell 3 rfl) ?_
 replace hB := hB.new hN3
 refine Zk (args := #[.pointer (some ⟨b, 0, none⟩), .int .i64 11, .int .u32 m.line]) cf47 (msg_c hB 11 m.line (by omega)) ?_
 rintro v w6 ⟨rfl, hN7⟩
 refine Zna (z := zv3) (cs := msgE.arr msg0) (by kernel_rfl) fun b8 w9 hN10 B11 hb12 => ?_
 replace hB := hB.new hN7
 have ne_b_b8 := nelt hB.lt hb12
 replace hL := (hL.new hN3).new hN7
 have ap_FpL_b8 := hL.apart hb12
 replace hA := (hA.new hN3).new hN7
 have ap_FpA_b8 := hA.apart hb12
 replace hG := (hG.new hN3).new hN7
 have ap_FpG_b8 := hG.apart hb12
 replace B4 := B4.new hN7
 have ne_b1_b8 := nelt B4.lt hb12
 replace hF := (hF.trNew hN3).trNew hN7
 have g_b8 := hF.sz hb12
 refine ZsS sz35 (msgE.all _) B11 (msgE.size _) (msgE.size _) fun w13 hO14 B11 => ?_
 refine Znq ?_
 refine Zsq ?_
 replace hG := (hG.new hN10).only hO14 (ne1P ap_FpG_b8)
 obtain ⟨rfl, hG0⟩ := hG
 refine Zhd (n := 17) (fun w => Blk w b 83 #[.int .i64 id, .pointer (some ⟨lb, 0, none⟩), pa, .pointer none] ∧ Blk w b1 35 (msgE.arr m) ∧ True) ?_
 intro w15 hN16
 replace hB := ((hB.new hN10).only hO14 ne_b_b8).new hN16
 replace B4 := ((B4.new hN10).only hO14 ne_b1_b8).new hN16
 have hS9 := And.intro hB (And.intro B4 trivial)
 refine Zhm 0 hS9 ?_
 refine Zhc 1 hS9 ?_
 refine Zhf 2 fo83_3 hS9 ?_
 refine Zhl 3 pl81 hS9 (fun _ ⟨hB, _⟩ => (hB.cell 3 rfl)) ?_
 refine Zht 4 rfl (.bool false) hS9 (fun _ fr _ _ => x_pneq Try.underlying81 rfl (fr.ev rfl) rfl rfl) ?_
 refine Zhm 5 hS9 ?_
 refine Zhs 6 hS9 ?_
 refine Zhs 7 hS9 ?_
 refine Zhs 8 hS9 ?_
 refine Zhs 9 hS9 ?_
 refine Zhs 10 hS9 ?_
 refine Zhs 11 hS9 ?_
 refine Zhs 12 hS9 ?_
 refine Zhs 13 hS9 ?_
 refine Zhs 14 hS9 ?_
 refine Zhs 15 hS9 ?_
 refine Zht 16 rfl (.bool false) hS9 (fun _ fr _ _ => x_pick_f rfl (fr.ev rfl) rfl) ?_
 refine Zhn ?_
 refine Znx ?_
 refine Zcf ?_
 refine Zkn ?_
 intro a fr
 refine fx_join (fun a wJ => ∃ b21 : Nat, Fr (75, []) [(0, .pointer (some ⟨b, 0, none⟩)), (3, .pointer (some ⟨b1, 0, none⟩)), (4, .slice none 0 0), (5, .pointer (some ⟨b8, 0, none⟩)), (6, .pointer (some ⟨b21, 0, none⟩))] a ∧ Only (Fp) w wJ ∧ Blk wJ b 83 #[.int .i64 id, .pointer (some ⟨lb, 0, none⟩), pa, .pointer none] ∧ LinesAt wJ FpL lb n ways L ∧ AskAt wJ FpA pa ask ∧ Blk wJ b1 35 (msgE.arr m) ∧ Blk wJ b8 35 (msgE.arr (mkM 11 id 4 m.line)) ∧ Blk wJ b21 39 (lnE.arr ((getN L m.line).getD ln0)) ∧ (NE b b21) ∧ (¬ FpL b21) ∧ (¬ FpA b21) ∧ (NE b1 b21) ∧ (NE b8 b21) ∧ (w.heap.size ≤ b21)) ?_ ?_
 ·revert a
  refine ZhT (n := 12) 12 (fun w => Blk w b 83 #[.int .i64 id, .pointer (some ⟨lb, 0, none⟩), pa, .pointer none] ∧ Blk w b1 35 (msgE.arr m) ∧ True) ?_
  intro w17 hN18
  replace hB := hB.new hN18
  replace B4 := B4.new hN18
  have hS9 := And.intro hB (And.intro B4 trivial)
  refine Zhm 0 hS9 ?_
  refine Zhc 1 hS9 ?_
  refine Zhf 2 fo83_1 hS9 ?_
  refine Zhl 3 pl79 hS9 (fun _ ⟨hB, _⟩ => (hB.cell 1 rfl)) ?_
  refine Zhf 4 fo35_3 hS9 ?_
  refine Zhl (v := .int .u32 m.line) 5 pl32 hS9 (fun _ ⟨_, B4, _⟩ => (B4.cell 3 rfl)) ?_
  refine Zh2 6 10 ?_ ?_
  ·replace hL := (((hL.new hN10).only hO14 (ne1P ap_FpL_b8)).new hN16).new hN18
   refine Zk (args := #[.pointer (some ⟨lb, 0, none⟩), .int .u32 m.line]) cf55 (find_c m.line (by omega) hL) ?_
   rintro v w19 ⟨rfl, hN20⟩
   replace hB := hB.new hN20
   replace B4 := B4.new hN20
   refine Zhb ⟨hB, B4, trivial⟩ ?_
   have hS9 := And.intro hB (And.intro B4 trivial)
   refine Zhm 7 hS9 ?_
   refine Zhx 8 hS9 ?_
   refine Zhx 9 hS9 ?_
   refine Zh1 10 ?_
   refine Zna (z := zv1) (cs := lnE.arr ln0) (by kernel_rfl) fun b21 w22 hN23 B24 hb25 => ?_
   have ne_b_b21 := nelt hB.lt hb25
   replace hL := hL.new hN20
   have ap_FpL_b21 := hL.apart hb25
   replace hA := ((((hA.new hN10).only hO14 (ne1P ap_FpA_b8)).new hN16).new hN18).new hN20
   have ap_FpA_b21 := hA.apart hb25
   have ne_b1_b21 := nelt B4.lt hb25
   replace B11 := ((B11.new hN16).new hN18).new hN20
   have ne_b8_b21 := nelt B11.lt hb25
   replace hF := ((((hF.trNew hN10).loc hO14 (.inr g_b8)).trNew hN16).trNew hN18).trNew hN20
   have g_b21 := hF.sz hb25
   replace hB := hB.new hN23
   replace B4 := B4.new hN23
   refine Zhb ⟨hB, B4, trivial⟩ ?_
   refine Zh1 11 ?_
   refine ZsS sz39 (lnE.all _) B24 (lnE.size _) (lnE.size _) fun w26 hO27 B24 => ?_
   replace hB := hB.only hO27 ne_b_b21
   replace B4 := B4.only hO27 ne_b1_b21
   refine Zhb ⟨hB, B4, trivial⟩ ?_
   refine Zhn ?_
   refine Ztl ?_
   refine Za ?_
   intro a fr
   refine wpList_nil ?_
   refine fx_next ?_
   replace hL := (hL.new hN23).only hO27 (ne1P ap_FpL_b21)
   replace hA := (hA.new hN23).only hO27 (ne1P ap_FpA_b21)
   replace B11 := (B11.new hN23).only hO27 ne_b8_b21
   replace hF := (hF.trNew hN23).loc hO27 (.inr g_b21)
   exact ⟨b21, fr.sub ⟨rfl, rfl, rfl, rfl, rfl, trivial⟩, hF, hB, hL, hA, B4, B11, B24, (by first | exact ne_b_b21 | exact ne_b21_b.symm), ap_FpL_b21, ap_FpA_b21, (by first | exact ne_b1_b21 | exact ne_b21_b1.symm), (by first | exact ne_b8_b21 | exact ne_b21_b8.symm), g_b21⟩
  ·refine Zna (z := zv1) (cs := lnE.arr ln0) (by kernel_rfl) fun b28 w29 hN30 B31 hb32 => ?_
   have ne_b_b28 := nelt hB.lt hb32
   replace hL := (((hL.new hN10).only hO14 (ne1P ap_FpL_b8)).new hN16).new hN18
   have ap_FpL_b28 := hL.apart hb32
   replace hA := (((hA.new hN10).only hO14 (ne1P ap_FpA_b8)).new hN16).new hN18
   have ap_FpA_b28 := hA.apart hb32
   have ne_b1_b28 := nelt B4.lt hb32
   replace B11 := (B11.new hN16).new hN18
   have ne_b8_b28 := nelt B11.lt hb32
   replace hF := (((hF.trNew hN10).loc hO14 (.inr g_b8)).trNew hN16).trNew hN18
   have g_b28 := hF.sz hb32
   replace hB := hB.new hN30
   replace B4 := B4.new hN30
   refine Zhb ⟨hB, B4, trivial⟩ ?_
   refine Zh1 6 ?_
   replace hL := hL.new hN30
   refine Zk (args := #[.pointer (some ⟨lb, 0, none⟩), .int .u32 m.line]) cf55 (find_c m.line (by omega) hL) ?_
   rintro v w33 ⟨rfl, hN34⟩
   replace hB := hB.new hN34
   replace B4 := B4.new hN34
   refine Zhb ⟨hB, B4, trivial⟩ ?_
   have hS9 := And.intro hB (And.intro B4 trivial)
   refine Zhm 7 hS9 ?_
   refine Zhx 8 hS9 ?_
   refine Zhx 9 hS9 ?_
   refine Zh1 11 ?_
   replace B31 := B31.new hN34
   refine ZsS sz39 (lnE.all _) B31 (lnE.size _) (lnE.size _) fun w35 hO36 B31 => ?_
   replace hB := hB.only hO36 ne_b_b28
   replace B4 := B4.only hO36 ne_b1_b28
   refine Zhb ⟨hB, B4, trivial⟩ ?_
   refine Zhn ?_
   refine Ztl ?_
   refine Za ?_
   intro a fr
   refine wpList_nil ?_
   refine fx_next ?_
   replace hA := ((hA.new hN30).new hN34).only hO36 (ne1P ap_FpA_b28)
   replace B11 := ((B11.new hN30).new hN34).only hO36 ne_b8_b28
   replace hF := ((hF.trNew hN30).trNew hN34).loc hO36 (.inr g_b28)
   replace hL := (hL.new hN34).only hO36 (ne1P ap_FpL_b28)
   exact ⟨b28, fr.sub ⟨rfl, rfl, rfl, rfl, rfl, trivial⟩, hF, hB, hL, hA, B4, B11, B31, (by first | exact ne_b_b28 | exact ne_b28_b.symm), ap_FpL_b28, ap_FpA_b28, (by first | exact ne_b1_b28 | exact ne_b28_b1.symm), (by first | exact ne_b8_b28 | exact ne_b28_b8.symm), g_b28⟩
 clear fr a
 replace hL := ((hL.new hN10).only hO14 (ne1P ap_FpL_b8)).new hN16
 replace hA := ((hA.new hN10).only hO14 (ne1P ap_FpA_b8)).new hN16
 replace hF := ((hF.trNew hN10).loc hO14 (.inr g_b8)).trNew hN16
 replace B11 := B11.new hN16
 rintro a w17 ⟨b21, fr, hF, hB, hL, hA, B4, B11, B24, ne_b_b21, ap_FpL_b21, ap_FpA_b21, ne_b1_b21, ne_b8_b21, g_b21⟩
 revert a
 refine Zsr ?_
 refine Zf fo39_1 ?_
 refine Zd (v := .int .i64 (((getN L m.line).getD ln0).state)) pl36 (B24.cell 1 rfl) ?_
 refine Zk cf44 (writes_c (((getN L m.line).getD ln0).state) _) ?_
 rintro v _ ⟨rfl, hw9⟩
 obtain rfl := hw9.symm
 intro a fr
 rw [hw'] at fr
 revert a
 refine Zk cf78 (must_ok 220 _) ?_
 rintro v w9 ⟨rfl, hw9⟩
 obtain rfl := hw9.symm
 refine Znn ?_
 refine Zsr ?_
 refine Zf fo39_2 ?_
 refine ZE (p := ((getN L m.line).getD ln0).bs) bsE ag22 (B24.part (ln_bs _)) ?_
 refine Zf fo35_4 ?_
 intro a fr
 refine fx_storePart (E := msgE) (E2 := bsE) (q := 4) (m := (mkM 11 id 4 m.line)) (m' := { (mkM 11 id 4 m.line) with bs := ((getN L m.line).getD ln0).bs }) (z := ((getN L m.line).getD ln0).bs) sz22 rfl rfl rfl (fr.ev rfl) (fr.ev rfl) B11 (by decide) (msg_setbs _ _) fun w41 hO42 hBq => ?_
 revert a
 replace B11 := hBq
 clear hBq
 refine Znq ?_
 refine Zsr ?_
 refine Zf fo35_0 ?_
 replace B4 := B4.only hO42 ne_b1_b8
 refine Zd (v := .int .i64 m.kind) pl33 (B4.cell 0 rfl) ?_
 refine Zv (.bool true) (fun _ fr => x_eql rfl (fr.ev rfl) rfl (decide_eq_true (by omega))) ?_
 refine Znt ?_
 refine Zsr ?_
 refine Zf fo39_1 ?_
 replace B24 := B24.only hO42 ne_b8_b21.symm
 refine Zs1 (cs' := lnE.arr { ((getN L m.line).getD ln0) with state := 1 }) sz36 B24 (by rw [lnE.size]; decide) (ln_setstate _ _) fun w43 hO44 B24 => ?_
 refine Znn ?_
 refine Zhd (n := 6) (fun w => Blk w b 83 #[.int .i64 id, .pointer (some ⟨lb, 0, none⟩), pa, .pointer none] ∧ Blk w b21 39 (lnE.arr { ((getN L m.line).getD ln0) with state := 1 }) ∧ True) ?_
 intro w45 hN46
 replace hB := ((hB.only hO42 ne_b_b8).only hO44 ne_b_b21).new hN46
 replace B24 := B24.new hN46
 have hS9 := And.intro hB (And.intro B24 trivial)
 refine Zhm 0 hS9 ?_
 refine Zhc 1 hS9 ?_
 refine Zhf 2 fo83_1 hS9 ?_
 refine Zhl 3 pl79 hS9 (fun _ ⟨hB, _⟩ => (hB.cell 1 rfl)) ?_
 refine ZhE 4 lnE ag39 hS9 (fun _ ⟨_, B24, _⟩ => (B24.rangeE lnE)) ?_
 refine Zh1 5 ?_
 replace hL := ((hL.only hO42 (ne1P ap_FpL_b8)).only hO44 (ne1P ap_FpL_b21)).new hN46
 refine Zk cf56 (put_c ({ ((getN L m.line).getD ln0) with state := 1 }) hL) ?_
 rintro v w50 ⟨rfl, Fp47, H48, hN51, mv49⟩
 have ap_Fp47_b : ¬ Fp47 b := moved_apartP mv49 ap_FpL_b hB.lt
 replace hA := ((hA.only hO42 (ne1P ap_FpA_b8)).only hO44 (ne1P ap_FpA_b21)).new hN46
 have ap2_Fp47_FpA : ∀ k, Fp47 k → FpA k → False := moved_apart2P mv49 ap2_FpL_FpA fun _ hg => hA.lt hg
 replace hF := ((hF.loc hO42 (.inr g_b8)).loc hO44 (.inr g_b21)).trNew hN46
 have gA_Fp47 := gA_movedP hF mv49 gA_FpL
 clear hL
 replace hB := hB.only hN51 ap_FpL_b
 replace B24 := B24.only hN51 ap_FpL_b21
 refine Zhb ⟨hB, B24, trivial⟩ ?_
 refine Zhn ?_
 refine Znx ?_
 refine Zsr ?_
 replace B11 := ((B11.only hO44 ne_b8_b21).new hN46).only hN51 ap_FpL_b8
 refine ZE msgE ag35 (B11.rangeE msgE) ?_
 intro a fr
 refine fx_build1 (E := msgE) (p := { (mkM 11 id 4 m.line) with bs := ((getN L m.line).getD ln0).bs }) elMsg (by decide) fr rfl rfl (by decide) rfl (fr.ev rfl) ?_
 clear fr a
 intro A52 w53 hN54 O55 hA56
 replace hF := hF.locP hN51 gA_FpL
 have gN_A52 := fun g (hg : inA A52 g) => Nat.le_trans hF.size (hA56 g hg)
 refine Zar ?_
 refine Zre rfl [_] ⟨rfl, trivial⟩ ?_
 replace hA := (hA.only hN51 (fun g h1 h2 => (symP ap2_FpL_FpA) g h1 h2)).new hN54
 replace hB := hB.new hN54
 replace H48 := H48.new hN54
 replace hF := hF.trNew hN54
 exact ⟨_, rfl, A52, 1, rfl, O55, gN_A52, (fun k => k = b ∨ Fp47 k ∨ FpA k ∨ (fun _ => False) k), ⟨lb, Fp47, _, _, FpA, (fun _ => False), hB, H48, hA, ⟨rfl, fun _ h => h⟩, ⟨ap_Fp47_b, ap_FpA_b, (fun h => h), ap2_Fp47_FpA, (fun _ _ h => h), (fun _ _ h => h), fun _ => Iff.rfl⟩⟩, hF, (fun g hg => hg.elim (fun e => by rw [e]; exact .inl ((hP.foot b).2 (.inl rfl))) fun h => h.elim (gA_Fp47 g) fun h => h.elim (gA_FpA g) (fun h => h.elim))⟩
theorem back_dn {w : World} {Fp : Nat → Prop} {b : Nat} {id : Int} {n : Nat} {ways : Int} {L : List Ln} {ask : Option (Int × Bool)} (H : CacheAt w Fp b ⟨id, n, ways, L, ask, none⟩) (m : Msg) (hw : writesB (stateOf L m.line) = true) (hk : ¬ m.kind = 4) : Calls Try.prog 51 #[.pointer (some ⟨b, 0, none⟩), .agg (msgE.arr m)] w (Ret fun v w' => ∃ A' cap', v = .slice A' ([mkM 11 id 4 m.line ((getN L m.line).getD ln0).bs m.hn]).length cap' ∧ Own msgE w' A' cap' ([mkM 11 id 4 m.line ((getN L m.line).getD ln0).bs m.hn]) ∧ (∀ g, inA A' g → w.heap.size ≤ g) ∧ ∃ Fp', CacheAt w' Fp' b ⟨id, n, ways, dropL L ((getN L m.line).getD ln0).num, ask, none⟩ ∧ Only Fp w w' ∧ ∀ g, Fp' g → Fp g ∨ w.heap.size ≤ g) := by
 obtain ⟨lb, FpL, pa, pg, FpA, FpG, hB, hL, hA, hG, hP⟩ := H
 dsimp only at hB hL hA hG
 have ap_FpL_b := hP.lb
 have ap_FpA_b := hP.ab
 have ap2_FpL_FpA := hP.la
 obtain ⟨hn1, hn2, hw1, hw2⟩ := hL.bd
 have gA_FpL : ∀ g, FpL g → Fp g ∨ w.heap.size ≤ g := fun g hg => .inl ((hP.foot g).2 (.inr (.inl hg)))
 have gA_FpA : ∀ g, FpA g → Fp g ∨ w.heap.size ≤ g := fun g hg => .inl ((hP.foot g).2 (.inr (.inr (.inl hg))))
 have hmn := m.hn
 have hw' : writesB (((getN L m.line).getD ln0).state) = true := hw
 have hxn := ((getN L m.line).getD ln0).hn
 have hF := Only.refl (Fp) w
 refine Zen 75 Try.func51 ?_
 refine Zsr ?_
 refine Znb (cs := msgE.arr m) fun b1 w2 hN3 B4 hb5 => ?_
 refine Zan ?_
 refine Zsm ?_
 refine Zf fo35_3 ?_
 refine Zd (v := .int .u32 m.line) pl32 (B4.cell 3 rfl) ?_
 replace hB := hB.new hN3
 refine Zk (args := #[.pointer (some ⟨b, 0, none⟩), .int .i64 11, .int .u32 m.line]) cf47 (msg_c hB 11 m.line (by omega)) ?_
 rintro v w6 ⟨rfl, hN7⟩
 refine Zna (z := zv3) (cs := msgE.arr msg0) (by kernel_rfl) fun b8 w9 hN10 B11 hb12 => ?_
 replace hB := hB.new hN7
 have ne_b_b8 := nelt hB.lt hb12
 replace hL := (hL.new hN3).new hN7
 have ap_FpL_b8 := hL.apart hb12
 replace hA := (hA.new hN3).new hN7
 have ap_FpA_b8 := hA.apart hb12
 replace hG := (hG.new hN3).new hN7
 have ap_FpG_b8 := hG.apart hb12
 replace B4 := B4.new hN7
 have ne_b1_b8 := nelt B4.lt hb12
 replace hF := (hF.trNew hN3).trNew hN7
 have g_b8 := hF.sz hb12
 refine ZsS sz35 (msgE.all _) B11 (msgE.size _) (msgE.size _) fun w13 hO14 B11 => ?_
 refine Znq ?_
 refine Zsq ?_
 replace hG := (hG.new hN10).only hO14 (ne1P ap_FpG_b8)
 obtain ⟨rfl, hG0⟩ := hG
 refine Zhd (n := 17) (fun w => Blk w b 83 #[.int .i64 id, .pointer (some ⟨lb, 0, none⟩), pa, .pointer none] ∧ Blk w b1 35 (msgE.arr m) ∧ True) ?_
 intro w15 hN16
 replace hB := ((hB.new hN10).only hO14 ne_b_b8).new hN16
 replace B4 := ((B4.new hN10).only hO14 ne_b1_b8).new hN16
 have hS9 := And.intro hB (And.intro B4 trivial)
 refine Zhm 0 hS9 ?_
 refine Zhc 1 hS9 ?_
 refine Zhf 2 fo83_3 hS9 ?_
 refine Zhl 3 pl81 hS9 (fun _ ⟨hB, _⟩ => (hB.cell 3 rfl)) ?_
 refine Zht 4 rfl (.bool false) hS9 (fun _ fr _ _ => x_pneq Try.underlying81 rfl (fr.ev rfl) rfl rfl) ?_
 refine Zhm 5 hS9 ?_
 refine Zhs 6 hS9 ?_
 refine Zhs 7 hS9 ?_
 refine Zhs 8 hS9 ?_
 refine Zhs 9 hS9 ?_
 refine Zhs 10 hS9 ?_
 refine Zhs 11 hS9 ?_
 refine Zhs 12 hS9 ?_
 refine Zhs 13 hS9 ?_
 refine Zhs 14 hS9 ?_
 refine Zhs 15 hS9 ?_
 refine Zht 16 rfl (.bool false) hS9 (fun _ fr _ _ => x_pick_f rfl (fr.ev rfl) rfl) ?_
 refine Zhn ?_
 refine Znx ?_
 refine Zcf ?_
 refine Zkn ?_
 intro a fr
 refine fx_join (fun a wJ => ∃ b21 : Nat, Fr (75, []) [(0, .pointer (some ⟨b, 0, none⟩)), (3, .pointer (some ⟨b1, 0, none⟩)), (4, .slice none 0 0), (5, .pointer (some ⟨b8, 0, none⟩)), (6, .pointer (some ⟨b21, 0, none⟩))] a ∧ Only (Fp) w wJ ∧ Blk wJ b 83 #[.int .i64 id, .pointer (some ⟨lb, 0, none⟩), pa, .pointer none] ∧ LinesAt wJ FpL lb n ways L ∧ AskAt wJ FpA pa ask ∧ Blk wJ b1 35 (msgE.arr m) ∧ Blk wJ b8 35 (msgE.arr (mkM 11 id 4 m.line)) ∧ Blk wJ b21 39 (lnE.arr ((getN L m.line).getD ln0)) ∧ (NE b b21) ∧ (¬ FpL b21) ∧ (¬ FpA b21) ∧ (NE b1 b21) ∧ (NE b8 b21) ∧ (w.heap.size ≤ b21)) ?_ ?_
 ·revert a
  refine ZhT (n := 12) 12 (fun w => Blk w b 83 #[.int .i64 id, .pointer (some ⟨lb, 0, none⟩), pa, .pointer none] ∧ Blk w b1 35 (msgE.arr m) ∧ True) ?_
  intro w17 hN18
  replace hB := hB.new hN18
  replace B4 := B4.new hN18
  have hS9 := And.intro hB (And.intro B4 trivial)
  refine Zhm 0 hS9 ?_
  refine Zhc 1 hS9 ?_
  refine Zhf 2 fo83_1 hS9 ?_
  refine Zhl 3 pl79 hS9 (fun _ ⟨hB, _⟩ => (hB.cell 1 rfl)) ?_
  refine Zhf 4 fo35_3 hS9 ?_
  refine Zhl (v := .int .u32 m.line) 5 pl32 hS9 (fun _ ⟨_, B4, _⟩ => (B4.cell 3 rfl)) ?_
  refine Zh2 6 10 ?_ ?_
  ·replace hL := (((hL.new hN10).only hO14 (ne1P ap_FpL_b8)).new hN16).new hN18
   refine Zk (args := #[.pointer (some ⟨lb, 0, none⟩), .int .u32 m.line]) cf55 (find_c m.line (by omega) hL) ?_
   rintro v w19 ⟨rfl, hN20⟩
   replace hB := hB.new hN20
   replace B4 := B4.new hN20
   refine Zhb ⟨hB, B4, trivial⟩ ?_
   have hS9 := And.intro hB (And.intro B4 trivial)
   refine Zhm 7 hS9 ?_
   refine Zhx 8 hS9 ?_
   refine Zhx 9 hS9 ?_
   refine Zh1 10 ?_
   refine Zna (z := zv1) (cs := lnE.arr ln0) (by kernel_rfl) fun b21 w22 hN23 B24 hb25 => ?_
   have ne_b_b21 := nelt hB.lt hb25
   replace hL := hL.new hN20
   have ap_FpL_b21 := hL.apart hb25
   replace hA := ((((hA.new hN10).only hO14 (ne1P ap_FpA_b8)).new hN16).new hN18).new hN20
   have ap_FpA_b21 := hA.apart hb25
   have ne_b1_b21 := nelt B4.lt hb25
   replace B11 := ((B11.new hN16).new hN18).new hN20
   have ne_b8_b21 := nelt B11.lt hb25
   replace hF := ((((hF.trNew hN10).loc hO14 (.inr g_b8)).trNew hN16).trNew hN18).trNew hN20
   have g_b21 := hF.sz hb25
   replace hB := hB.new hN23
   replace B4 := B4.new hN23
   refine Zhb ⟨hB, B4, trivial⟩ ?_
   refine Zh1 11 ?_
   refine ZsS sz39 (lnE.all _) B24 (lnE.size _) (lnE.size _) fun w26 hO27 B24 => ?_
   replace hB := hB.only hO27 ne_b_b21
   replace B4 := B4.only hO27 ne_b1_b21
   refine Zhb ⟨hB, B4, trivial⟩ ?_
   refine Zhn ?_
   refine Ztl ?_
   refine Za ?_
   intro a fr
   refine wpList_nil ?_
   refine fx_next ?_
   replace hL := (hL.new hN23).only hO27 (ne1P ap_FpL_b21)
   replace hA := (hA.new hN23).only hO27 (ne1P ap_FpA_b21)
   replace B11 := (B11.new hN23).only hO27 ne_b8_b21
   replace hF := (hF.trNew hN23).loc hO27 (.inr g_b21)
   exact ⟨b21, fr.sub ⟨rfl, rfl, rfl, rfl, rfl, trivial⟩, hF, hB, hL, hA, B4, B11, B24, (by first | exact ne_b_b21 | exact ne_b21_b.symm), ap_FpL_b21, ap_FpA_b21, (by first | exact ne_b1_b21 | exact ne_b21_b1.symm), (by first | exact ne_b8_b21 | exact ne_b21_b8.symm), g_b21⟩
  ·refine Zna (z := zv1) (cs := lnE.arr ln0) (by kernel_rfl) fun b28 w29 hN30 B31 hb32 => ?_
   have ne_b_b28 := nelt hB.lt hb32
   replace hL := (((hL.new hN10).only hO14 (ne1P ap_FpL_b8)).new hN16).new hN18
   have ap_FpL_b28 := hL.apart hb32
   replace hA := (((hA.new hN10).only hO14 (ne1P ap_FpA_b8)).new hN16).new hN18
   have ap_FpA_b28 := hA.apart hb32
   have ne_b1_b28 := nelt B4.lt hb32
   replace B11 := (B11.new hN16).new hN18
   have ne_b8_b28 := nelt B11.lt hb32
   replace hF := (((hF.trNew hN10).loc hO14 (.inr g_b8)).trNew hN16).trNew hN18
   have g_b28 := hF.sz hb32
   replace hB := hB.new hN30
   replace B4 := B4.new hN30
   refine Zhb ⟨hB, B4, trivial⟩ ?_
   refine Zh1 6 ?_
   replace hL := hL.new hN30
   refine Zk (args := #[.pointer (some ⟨lb, 0, none⟩), .int .u32 m.line]) cf55 (find_c m.line (by omega) hL) ?_
   rintro v w33 ⟨rfl, hN34⟩
   replace hB := hB.new hN34
   replace B4 := B4.new hN34
   refine Zhb ⟨hB, B4, trivial⟩ ?_
   have hS9 := And.intro hB (And.intro B4 trivial)
   refine Zhm 7 hS9 ?_
   refine Zhx 8 hS9 ?_
   refine Zhx 9 hS9 ?_
   refine Zh1 11 ?_
   replace B31 := B31.new hN34
   refine ZsS sz39 (lnE.all _) B31 (lnE.size _) (lnE.size _) fun w35 hO36 B31 => ?_
   replace hB := hB.only hO36 ne_b_b28
   replace B4 := B4.only hO36 ne_b1_b28
   refine Zhb ⟨hB, B4, trivial⟩ ?_
   refine Zhn ?_
   refine Ztl ?_
   refine Za ?_
   intro a fr
   refine wpList_nil ?_
   refine fx_next ?_
   replace hA := ((hA.new hN30).new hN34).only hO36 (ne1P ap_FpA_b28)
   replace B11 := ((B11.new hN30).new hN34).only hO36 ne_b8_b28
   replace hF := ((hF.trNew hN30).trNew hN34).loc hO36 (.inr g_b28)
   replace hL := (hL.new hN34).only hO36 (ne1P ap_FpL_b28)
   exact ⟨b28, fr.sub ⟨rfl, rfl, rfl, rfl, rfl, trivial⟩, hF, hB, hL, hA, B4, B11, B31, (by first | exact ne_b_b28 | exact ne_b28_b.symm), ap_FpL_b28, ap_FpA_b28, (by first | exact ne_b1_b28 | exact ne_b28_b1.symm), (by first | exact ne_b8_b28 | exact ne_b28_b8.symm), g_b28⟩
 clear fr a
 replace hL := ((hL.new hN10).only hO14 (ne1P ap_FpL_b8)).new hN16
 replace hA := ((hA.new hN10).only hO14 (ne1P ap_FpA_b8)).new hN16
 replace hF := ((hF.trNew hN10).loc hO14 (.inr g_b8)).trNew hN16
 replace B11 := B11.new hN16
 rintro a w17 ⟨b21, fr, hF, hB, hL, hA, B4, B11, B24, ne_b_b21, ap_FpL_b21, ap_FpA_b21, ne_b1_b21, ne_b8_b21, g_b21⟩
 revert a
 refine Zsr ?_
 refine Zf fo39_1 ?_
 refine Zd (v := .int .i64 (((getN L m.line).getD ln0).state)) pl36 (B24.cell 1 rfl) ?_
 refine Zk cf44 (writes_c (((getN L m.line).getD ln0).state) _) ?_
 rintro v _ ⟨rfl, hw9⟩
 obtain rfl := hw9.symm
 intro a fr
 rw [hw'] at fr
 revert a
 refine Zk cf78 (must_ok 220 _) ?_
 rintro v w9 ⟨rfl, hw9⟩
 obtain rfl := hw9.symm
 refine Znn ?_
 refine Zsr ?_
 refine Zf fo39_2 ?_
 refine ZE (p := ((getN L m.line).getD ln0).bs) bsE ag22 (B24.part (ln_bs _)) ?_
 refine Zf fo35_4 ?_
 intro a fr
 refine fx_storePart (E := msgE) (E2 := bsE) (q := 4) (m := (mkM 11 id 4 m.line)) (m' := { (mkM 11 id 4 m.line) with bs := ((getN L m.line).getD ln0).bs }) (z := ((getN L m.line).getD ln0).bs) sz22 rfl rfl rfl (fr.ev rfl) (fr.ev rfl) B11 (by decide) (msg_setbs _ _) fun w41 hO42 hBq => ?_
 revert a
 replace B11 := hBq
 clear hBq
 refine Znq ?_
 refine Zsr ?_
 refine Zf fo35_0 ?_
 replace B4 := B4.only hO42 ne_b1_b8
 refine Zd (v := .int .i64 m.kind) pl33 (B4.cell 0 rfl) ?_
 refine Zv (.bool false) (fun _ fr => x_eql rfl (fr.ev rfl) rfl (decide_eq_false hk)) ?_
 refine Znf ?_
 refine Zhd (n := 7) (fun w => Blk w b 83 #[.int .i64 id, .pointer (some ⟨lb, 0, none⟩), pa, .pointer none] ∧ Blk w b21 39 (lnE.arr ((getN L m.line).getD ln0)) ∧ True) ?_
 intro w43 hN44
 replace hB := (hB.only hO42 ne_b_b8).new hN44
 replace B24 := (B24.only hO42 ne_b8_b21.symm).new hN44
 have hS9 := And.intro hB (And.intro B24 trivial)
 refine Zhm 0 hS9 ?_
 refine Zhc 1 hS9 ?_
 refine Zhf 2 fo83_1 hS9 ?_
 refine Zhl 3 pl79 hS9 (fun _ ⟨hB, _⟩ => (hB.cell 1 rfl)) ?_
 refine Zhf 4 fo39_0 hS9 ?_
 refine Zhl (v := .int .u32 (((getN L m.line).getD ln0).num)) 5 pl32 hS9 (fun _ ⟨_, B24, _⟩ => (B24.cell 0 rfl)) ?_
 refine Zh1 6 ?_
 replace hL := (hL.only hO42 (ne1P ap_FpL_b8)).new hN44
 refine Zk (args := #[.pointer (some ⟨lb, 0, none⟩), .int .u32 (((getN L m.line).getD ln0).num)]) cf76 (drop_c (((getN L m.line).getD ln0).num) (by omega) hL) ?_
 rintro v w48 ⟨rfl, Fp45, H46, hN49, mv47⟩
 have ap_Fp45_b : ¬ Fp45 b := moved_apartP mv47 ap_FpL_b hB.lt
 replace hA := (hA.only hO42 (ne1P ap_FpA_b8)).new hN44
 have ap2_Fp45_FpA : ∀ k, Fp45 k → FpA k → False := moved_apart2P mv47 ap2_FpL_FpA fun _ hg => hA.lt hg
 replace hF := (hF.loc hO42 (.inr g_b8)).trNew hN44
 have gA_Fp45 := gA_movedP hF mv47 gA_FpL
 clear hL
 replace hB := hB.only hN49 ap_FpL_b
 replace B24 := B24.only hN49 ap_FpL_b21
 refine Zhb ⟨hB, B24, trivial⟩ ?_
 refine Zhn ?_
 refine Znx ?_
 refine Zsr ?_
 replace B11 := (B11.new hN44).only hN49 ap_FpL_b8
 refine ZE msgE ag35 (B11.rangeE msgE) ?_
 intro a fr
 refine fx_build1 (E := msgE) (p := { (mkM 11 id 4 m.line) with bs := ((getN L m.line).getD ln0).bs }) elMsg (by decide) fr rfl rfl (by decide) rfl (fr.ev rfl) ?_
 clear fr a
 intro A50 w51 hN52 O53 hA54
 replace hF := hF.locP hN49 gA_FpL
 have gN_A50 := fun g (hg : inA A50 g) => Nat.le_trans hF.size (hA54 g hg)
 refine Zar ?_
 refine Zre rfl [_] ⟨rfl, trivial⟩ ?_
 replace hA := (hA.only hN49 (fun g h1 h2 => (symP ap2_FpL_FpA) g h1 h2)).new hN52
 replace hB := hB.new hN52
 replace H46 := H46.new hN52
 replace hF := hF.trNew hN52
 exact ⟨_, rfl, A50, 1, rfl, O53, gN_A50, (fun k => k = b ∨ Fp45 k ∨ FpA k ∨ (fun _ => False) k), ⟨lb, Fp45, _, _, FpA, (fun _ => False), hB, H46, hA, ⟨rfl, fun _ h => h⟩, ⟨ap_Fp45_b, ap_FpA_b, (fun h => h), ap2_Fp45_FpA, (fun _ _ h => h), (fun _ _ h => h), fun _ => Iff.rfl⟩⟩, hF, (fun g hg => hg.elim (fun e => by rw [e]; exact .inl ((hP.foot b).2 (.inl rfl))) fun h => h.elim (gA_Fp45 g) fun h => h.elim (gA_FpA g) (fun h => h.elim))⟩
theorem back_non {w : World} {Fp : Nat → Prop} {b : Nat} {id : Int} {n : Nat} {ways : Int} {L : List Ln} {ask : Option (Int × Bool)} (H : CacheAt w Fp b ⟨id, n, ways, L, ask, none⟩) (m : Msg) (hw : writesB (stateOf L m.line) = false) : Calls Try.prog 51 #[.pointer (some ⟨b, 0, none⟩), .agg (msgE.arr m)] w (Pan fun c w' => c = stopE 220 ∧ New w w') := by
 obtain ⟨lb, FpL, pa, pg, FpA, FpG, hB, hL, hA, hG, hP⟩ := H
 dsimp only at hB hL hA hG
 obtain ⟨hn1, hn2, hw1, hw2⟩ := hL.bd
 have hmn := m.hn
 have hF := Only.refl (fun _ => False) w
 refine Zen 75 Try.func51 ?_
 refine Zsr ?_
 refine Znb (cs := msgE.arr m) fun b1 w2 hN3 B4 hb5 => ?_
 refine Zan ?_
 refine Zsm ?_
 refine Zf fo35_3 ?_
 refine Zd (v := .int .u32 m.line) pl32 (B4.cell 3 rfl) ?_
 replace hB := hB.new hN3
 refine Zk (args := #[.pointer (some ⟨b, 0, none⟩), .int .i64 11, .int .u32 m.line]) cf47 (msg_c hB 11 m.line (by omega)) ?_
 rintro v w6 ⟨rfl, hN7⟩
 refine Zna (z := zv3) (cs := msgE.arr msg0) (by kernel_rfl) fun b8 w9 hN10 B11 hb12 => ?_
 replace hB := hB.new hN7
 have ne_b_b8 := nelt hB.lt hb12
 replace hL := (hL.new hN3).new hN7
 have ap_FpL_b8 := hL.apart hb12
 replace hA := (hA.new hN3).new hN7
 have ap_FpA_b8 := hA.apart hb12
 replace hG := (hG.new hN3).new hN7
 have ap_FpG_b8 := hG.apart hb12
 replace B4 := B4.new hN7
 have ne_b1_b8 := nelt B4.lt hb12
 replace hF := (hF.trNew hN3).trNew hN7
 have g_b8 := hF.sz hb12
 refine ZsS sz35 (msgE.all _) B11 (msgE.size _) (msgE.size _) fun w13 hO14 B11 => ?_
 refine Znq ?_
 refine Zsq ?_
 replace hG := (hG.new hN10).only hO14 (ne1P ap_FpG_b8)
 obtain ⟨rfl, hG0⟩ := hG
 refine Zhd (n := 17) (fun w => Blk w b 83 #[.int .i64 id, .pointer (some ⟨lb, 0, none⟩), pa, .pointer none] ∧ Blk w b1 35 (msgE.arr m) ∧ True) ?_
 intro w15 hN16
 replace hB := ((hB.new hN10).only hO14 ne_b_b8).new hN16
 replace B4 := ((B4.new hN10).only hO14 ne_b1_b8).new hN16
 have hS9 := And.intro hB (And.intro B4 trivial)
 refine Zhm 0 hS9 ?_
 refine Zhc 1 hS9 ?_
 refine Zhf 2 fo83_3 hS9 ?_
 refine Zhl 3 pl81 hS9 (fun _ ⟨hB, _⟩ => (hB.cell 3 rfl)) ?_
 refine Zht 4 rfl (.bool false) hS9 (fun _ fr _ _ => x_pneq Try.underlying81 rfl (fr.ev rfl) rfl rfl) ?_
 refine Zhm 5 hS9 ?_
 refine Zhs 6 hS9 ?_
 refine Zhs 7 hS9 ?_
 refine Zhs 8 hS9 ?_
 refine Zhs 9 hS9 ?_
 refine Zhs 10 hS9 ?_
 refine Zhs 11 hS9 ?_
 refine Zhs 12 hS9 ?_
 refine Zhs 13 hS9 ?_
 refine Zhs 14 hS9 ?_
 refine Zhs 15 hS9 ?_
 refine Zht 16 rfl (.bool false) hS9 (fun _ fr _ _ => x_pick_f rfl (fr.ev rfl) rfl) ?_
 refine Zhn ?_
 refine Znx ?_
 refine Zcf ?_
 refine Zkn ?_
 intro a fr
 refine fx_join (fun a wJ => ∃ b21 : Nat, Fr (75, []) [(0, .pointer (some ⟨b, 0, none⟩)), (3, .pointer (some ⟨b1, 0, none⟩)), (4, .slice none 0 0), (5, .pointer (some ⟨b8, 0, none⟩)), (6, .pointer (some ⟨b21, 0, none⟩))] a ∧ Only (fun _ => False) w wJ ∧ Blk wJ b 83 #[.int .i64 id, .pointer (some ⟨lb, 0, none⟩), pa, .pointer none] ∧ LinesAt wJ FpL lb n ways L ∧ AskAt wJ FpA pa ask ∧ Blk wJ b1 35 (msgE.arr m) ∧ Blk wJ b8 35 (msgE.arr (mkM 11 id 4 m.line)) ∧ Blk wJ b21 39 (lnE.arr ((getN L m.line).getD ln0)) ∧ (NE b b21) ∧ (¬ FpL b21) ∧ (¬ FpA b21) ∧ (NE b1 b21) ∧ (NE b8 b21) ∧ (w.heap.size ≤ b21)) ?_ ?_
 ·revert a
  refine ZhT (n := 12) 12 (fun w => Blk w b 83 #[.int .i64 id, .pointer (some ⟨lb, 0, none⟩), pa, .pointer none] ∧ Blk w b1 35 (msgE.arr m) ∧ True) ?_
  intro w17 hN18
  replace hB := hB.new hN18
  replace B4 := B4.new hN18
  have hS9 := And.intro hB (And.intro B4 trivial)
  refine Zhm 0 hS9 ?_
  refine Zhc 1 hS9 ?_
  refine Zhf 2 fo83_1 hS9 ?_
  refine Zhl 3 pl79 hS9 (fun _ ⟨hB, _⟩ => (hB.cell 1 rfl)) ?_
  refine Zhf 4 fo35_3 hS9 ?_
  refine Zhl (v := .int .u32 m.line) 5 pl32 hS9 (fun _ ⟨_, B4, _⟩ => (B4.cell 3 rfl)) ?_
  refine Zh2 6 10 ?_ ?_
  ·replace hL := (((hL.new hN10).only hO14 (ne1P ap_FpL_b8)).new hN16).new hN18
   refine Zk (args := #[.pointer (some ⟨lb, 0, none⟩), .int .u32 m.line]) cf55 (find_c m.line (by omega) hL) ?_
   rintro v w19 ⟨rfl, hN20⟩
   replace hB := hB.new hN20
   replace B4 := B4.new hN20
   refine Zhb ⟨hB, B4, trivial⟩ ?_
   have hS9 := And.intro hB (And.intro B4 trivial)
   refine Zhm 7 hS9 ?_
   refine Zhx 8 hS9 ?_
   refine Zhx 9 hS9 ?_
   refine Zh1 10 ?_
   refine Zna (z := zv1) (cs := lnE.arr ln0) (by kernel_rfl) fun b21 w22 hN23 B24 hb25 => ?_
   have ne_b_b21 := nelt hB.lt hb25
   replace hL := hL.new hN20
   have ap_FpL_b21 := hL.apart hb25
   replace hA := ((((hA.new hN10).only hO14 (ne1P ap_FpA_b8)).new hN16).new hN18).new hN20
   have ap_FpA_b21 := hA.apart hb25
   have ne_b1_b21 := nelt B4.lt hb25
   replace B11 := ((B11.new hN16).new hN18).new hN20
   have ne_b8_b21 := nelt B11.lt hb25
   replace hF := ((((hF.trNew hN10).loc hO14 (.inr g_b8)).trNew hN16).trNew hN18).trNew hN20
   have g_b21 := hF.sz hb25
   replace hB := hB.new hN23
   replace B4 := B4.new hN23
   refine Zhb ⟨hB, B4, trivial⟩ ?_
   refine Zh1 11 ?_
   refine ZsS sz39 (lnE.all _) B24 (lnE.size _) (lnE.size _) fun w26 hO27 B24 => ?_
   replace hB := hB.only hO27 ne_b_b21
   replace B4 := B4.only hO27 ne_b1_b21
   refine Zhb ⟨hB, B4, trivial⟩ ?_
   refine Zhn ?_
   refine Ztl ?_
   refine Za ?_
   intro a fr
   refine wpList_nil ?_
   refine fx_next ?_
   replace hL := (hL.new hN23).only hO27 (ne1P ap_FpL_b21)
   replace hA := (hA.new hN23).only hO27 (ne1P ap_FpA_b21)
   replace B11 := (B11.new hN23).only hO27 ne_b8_b21
   replace hF := (hF.trNew hN23).loc hO27 (.inr g_b21)
   exact ⟨b21, fr.sub ⟨rfl, rfl, rfl, rfl, rfl, trivial⟩, hF, hB, hL, hA, B4, B11, B24, (by first | exact ne_b_b21 | exact ne_b21_b.symm), ap_FpL_b21, ap_FpA_b21, (by first | exact ne_b1_b21 | exact ne_b21_b1.symm), (by first | exact ne_b8_b21 | exact ne_b21_b8.symm), g_b21⟩
  ·refine Zna (z := zv1) (cs := lnE.arr ln0) (by kernel_rfl) fun b28 w29 hN30 B31 hb32 => ?_
   have ne_b_b28 := nelt hB.lt hb32
   replace hL := (((hL.new hN10).only hO14 (ne1P ap_FpL_b8)).new hN16).new hN18
   have ap_FpL_b28 := hL.apart hb32
   replace hA := (((hA.new hN10).only hO14 (ne1P ap_FpA_b8)).new hN16).new hN18
   have ap_FpA_b28 := hA.apart hb32
   have ne_b1_b28 := nelt B4.lt hb32
   replace B11 := (B11.new hN16).new hN18
   have ne_b8_b28 := nelt B11.lt hb32
   replace hF := (((hF.trNew hN10).loc hO14 (.inr g_b8)).trNew hN16).trNew hN18
   have g_b28 := hF.sz hb32
   replace hB := hB.new hN30
   replace B4 := B4.new hN30
   refine Zhb ⟨hB, B4, trivial⟩ ?_
   refine Zh1 6 ?_
   replace hL := hL.new hN30
   refine Zk (args := #[.pointer (some ⟨lb, 0, none⟩), .int .u32 m.line]) cf55 (find_c m.line (by omega) hL) ?_
   rintro v w33 ⟨rfl, hN34⟩
   replace hB := hB.new hN34
   replace B4 := B4.new hN34
   refine Zhb ⟨hB, B4, trivial⟩ ?_
   have hS9 := And.intro hB (And.intro B4 trivial)
   refine Zhm 7 hS9 ?_
   refine Zhx 8 hS9 ?_
   refine Zhx 9 hS9 ?_
   refine Zh1 11 ?_
   replace B31 := B31.new hN34
   refine ZsS sz39 (lnE.all _) B31 (lnE.size _) (lnE.size _) fun w35 hO36 B31 => ?_
   replace hB := hB.only hO36 ne_b_b28
   replace B4 := B4.only hO36 ne_b1_b28
   refine Zhb ⟨hB, B4, trivial⟩ ?_
   refine Zhn ?_
   refine Ztl ?_
   refine Za ?_
   intro a fr
   refine wpList_nil ?_
   refine fx_next ?_
   replace hA := ((hA.new hN30).new hN34).only hO36 (ne1P ap_FpA_b28)
   replace B11 := ((B11.new hN30).new hN34).only hO36 ne_b8_b28
   replace hF := ((hF.trNew hN30).trNew hN34).loc hO36 (.inr g_b28)
   replace hL := (hL.new hN34).only hO36 (ne1P ap_FpL_b28)
   exact ⟨b28, fr.sub ⟨rfl, rfl, rfl, rfl, rfl, trivial⟩, hF, hB, hL, hA, B4, B11, B31, (by first | exact ne_b_b28 | exact ne_b28_b.symm), ap_FpL_b28, ap_FpA_b28, (by first | exact ne_b1_b28 | exact ne_b28_b1.symm), (by first | exact ne_b8_b28 | exact ne_b28_b8.symm), g_b28⟩
 clear fr a
 replace hL := ((hL.new hN10).only hO14 (ne1P ap_FpL_b8)).new hN16
 replace hA := ((hA.new hN10).only hO14 (ne1P ap_FpA_b8)).new hN16
 replace hF := ((hF.trNew hN10).loc hO14 (.inr g_b8)).trNew hN16
 replace B11 := B11.new hN16
 rintro a w17 ⟨b21, fr, hF, hB, hL, hA, B4, B11, B24, ne_b_b21, ap_FpL_b21, ap_FpA_b21, ne_b1_b21, ne_b8_b21, g_b21⟩
 revert a
 refine Zsq ?_
 have hw' : writesB (((getN L m.line).getD ln0).state) = false := hw
 have hxn := ((getN L m.line).getD ln0).hn
 refine Zrg ?_
 refine Zf fo39_1 ?_
 refine Zd (v := .int .i64 (((getN L m.line).getD ln0).state)) pl36 (B24.cell 1 rfl) ?_
 refine Zk cf44 (writes_c (((getN L m.line).getD ln0).state) _) ?_
 rintro v _ ⟨rfl, hw9⟩
 obtain rfl := hw9.symm
 intro a fr
 rw [hw'] at fr
 revert a
 intro a fr
 refine fx_callp rfl (x_call (vs := [.bool false, .int .i64 220]) rfl rfl ⟨(fr.ev rfl), rfl, trivial⟩ Try.func78 nm78 rfl) (must_no 220 _) ?_
 rintro _ _ ⟨rfl, rfl⟩
 refine fx_pt ?_
 refine fx_pend fr ?_
 exact ⟨_, rfl, rfl, hF⟩
theorem back_sg {w : World} {Fp : Nat → Prop} {b : Nat} {id : Int} {n : Nat} {ways : Int} {L : List Ln} {ask : Option (Int × Bool)} {gx : Ln} (H : CacheAt w Fp b ⟨id, n, ways, L, ask, (some gx)⟩) (m : Msg) (hg : ¬ gx.num = m.line) (hw : writesB (stateOf L m.line) = true) (hk : m.kind = 4) : Calls Try.prog 51 #[.pointer (some ⟨b, 0, none⟩), .agg (msgE.arr m)] w (Ret fun v w' => ∃ A' cap', v = .slice A' ([mkM 11 id 4 m.line ((getN L m.line).getD ln0).bs m.hn]).length cap' ∧ Own msgE w' A' cap' ([mkM 11 id 4 m.line ((getN L m.line).getD ln0).bs m.hn]) ∧ (∀ g, inA A' g → w.heap.size ≤ g) ∧ ∃ Fp', CacheAt w' Fp' b ⟨id, n, ways, putL n ways L { ((getN L m.line).getD ln0) with state := 1 }, ask, (some gx)⟩ ∧ Only Fp w w' ∧ ∀ g, Fp' g → Fp g ∨ w.heap.size ≤ g) := by
 obtain ⟨lb, FpL, pa, pg, FpA, FpG, hB, hL, hA, hG, hP⟩ := H
 dsimp only at hB hL hA hG
 have ap_FpL_b := hP.lb
 have ap_FpA_b := hP.ab
 have ap_FpG_b := hP.gb
 have ap2_FpL_FpA := hP.la
 have ap2_FpL_FpG := hP.lg
 have ap2_FpA_FpG := hP.ag
 obtain ⟨hn1, hn2, hw1, hw2⟩ := hL.bd
 have gA_FpL : ∀ g, FpL g → Fp g ∨ w.heap.size ≤ g := fun g hg => .inl ((hP.foot g).2 (.inr (.inl hg)))
 have gA_FpA : ∀ g, FpA g → Fp g ∨ w.heap.size ≤ g := fun g hg => .inl ((hP.foot g).2 (.inr (.inr (.inl hg))))
 have gA_FpG : ∀ g, FpG g → Fp g ∨ w.heap.size ≤ g := fun g hg => .inl ((hP.foot g).2 (.inr (.inr (.inr hg))))
 have hmn := m.hn
 have hw' : writesB (((getN L m.line).getD ln0).state) = true := hw
 have hxn := ((getN L m.line).getD ln0).hn
 have hF := Only.refl (Fp) w
 refine Zen 75 Try.func51 ?_
 refine Zsr ?_
 refine Znb (cs := msgE.arr m) fun b1 w2 hN3 B4 hb5 => ?_
 refine Zan ?_
 refine Zsm ?_
 refine Zf fo35_3 ?_
 refine Zd (v := .int .u32 m.line) pl32 (B4.cell 3 rfl) ?_
 replace hB := hB.new hN3
 refine Zk (args := #[.pointer (some ⟨b, 0, none⟩), .int .i64 11, .int .u32 m.line]) cf47 (msg_c hB 11 m.line (by omega)) ?_
 rintro v w6 ⟨rfl, hN7⟩
 refine Zna (z := zv3) (cs := msgE.arr msg0) (by kernel_rfl) fun b8 w9 hN10 B11 hb12 => ?_
 replace hB := hB.new hN7
 have ne_b_b8 := nelt hB.lt hb12
 replace hL := (hL.new hN3).new hN7
 have ap_FpL_b8 := hL.apart hb12
 replace hA := (hA.new hN3).new hN7
 have ap_FpA_b8 := hA.apart hb12
 replace hG := (hG.new hN3).new hN7
 have ap_FpG_b8 := hG.apart hb12
 replace B4 := B4.new hN7
 have ne_b1_b8 := nelt B4.lt hb12
 replace hF := (hF.trNew hN3).trNew hN7
 have g_b8 := hF.sz hb12
 refine ZsS sz35 (msgE.all _) B11 (msgE.size _) (msgE.size _) fun w13 hO14 B11 => ?_
 refine Znq ?_
 refine Zsq ?_
 replace hG := (hG.new hN10).only hO14 (ne1P ap_FpG_b8)
 obtain ⟨bg, rfl, hGB, hGF⟩ := hG
 have ne_bg_b : NE bg b := fun e => ap_FpG_b (e ▸ (hGF bg).2 rfl)
 have ap_FpL_bg : ¬ FpL bg := fun h => ap2_FpL_FpG bg h ((hGF bg).2 rfl)
 have ap_FpA_bg : ¬ FpA bg := fun h => ap2_FpA_FpG bg h ((hGF bg).2 rfl)
 have ne_bg_b8 : NE bg b8 := fun e => ap_FpG_b8 (e ▸ (hGF bg).2 rfl)
 have gi_bg := gA_FpG bg ((hGF bg).2 rfl)
 refine Zhd (n := 17) (fun w => Blk w b 83 #[.int .i64 id, .pointer (some ⟨lb, 0, none⟩), pa, .pointer (some ⟨bg, 0, none⟩)] ∧ Blk w b1 35 (msgE.arr m) ∧ Blk w bg 39 (lnE.arr gx) ∧ True) ?_
 intro w15 hN16
 replace hB := ((hB.new hN10).only hO14 ne_b_b8).new hN16
 replace B4 := ((B4.new hN10).only hO14 ne_b1_b8).new hN16
 replace hGB := hGB.new hN16
 have hS9 := And.intro hB (And.intro B4 (And.intro hGB trivial))
 refine Zhm 0 hS9 ?_
 refine Zhc 1 hS9 ?_
 refine Zhf 2 fo83_3 hS9 ?_
 refine Zhl 3 pl81 hS9 (fun _ ⟨hB, _⟩ => (hB.cell 3 rfl)) ?_
 refine Zht 4 rfl (.bool true) hS9 (fun _ fr _ _ => x_pneq Try.underlying81 rfl (fr.ev rfl) rfl rfl) ?_
 refine Zhm 5 hS9 ?_
 refine Zhm 6 hS9 ?_
 refine Zhc 7 hS9 ?_
 refine Zhf 8 fo83_3 hS9 ?_
 refine Zhl 9 pl81 hS9 (fun _ ⟨hB, _⟩ => (hB.cell 3 rfl)) ?_
 refine Zhc 10 hS9 ?_
 refine Zhf 11 fo39_0 hS9 ?_
 refine Zhl (v := .int .u32 gx.num) 12 pl32 hS9 (fun _ ⟨_, _, hGB, _⟩ => (hGB.cell 0 rfl)) ?_
 refine Zhf 13 fo35_3 hS9 ?_
 refine Zhl (v := .int .u32 m.line) 14 pl32 hS9 (fun _ ⟨_, B4, _⟩ => (B4.cell 3 rfl)) ?_
 refine Zht 15 rfl (.bool false) hS9 (fun _ fr _ _ => x_eql rfl (fr.ev rfl) (fr.ev rfl) (decide_eq_false hg)) ?_
 refine Zht 16 rfl (.bool false) hS9 (fun _ fr _ _ => x_pick_t rfl (fr.ev rfl) (fr.ev rfl)) ?_
 refine Zhn ?_
 refine Znx ?_
 refine Zcf ?_
 refine Zkn ?_
 intro a fr
 refine fx_join (fun a wJ => ∃ b21 : Nat, Fr (75, []) [(0, .pointer (some ⟨b, 0, none⟩)), (3, .pointer (some ⟨b1, 0, none⟩)), (4, .slice none 0 0), (5, .pointer (some ⟨b8, 0, none⟩)), (6, .pointer (some ⟨b21, 0, none⟩))] a ∧ Only (Fp) w wJ ∧ Blk wJ b 83 #[.int .i64 id, .pointer (some ⟨lb, 0, none⟩), pa, .pointer (some ⟨bg, 0, none⟩)] ∧ LinesAt wJ FpL lb n ways L ∧ AskAt wJ FpA pa ask ∧ Blk wJ b1 35 (msgE.arr m) ∧ Blk wJ b8 35 (msgE.arr (mkM 11 id 4 m.line)) ∧ Blk wJ bg 39 (lnE.arr gx) ∧ Blk wJ b21 39 (lnE.arr ((getN L m.line).getD ln0)) ∧ (NE b b21) ∧ (¬ FpL b21) ∧ (¬ FpA b21) ∧ (NE b1 b21) ∧ (NE b8 b21) ∧ (NE bg b21) ∧ (w.heap.size ≤ b21)) ?_ ?_
 ·revert a
  refine ZhT (n := 12) 12 (fun w => Blk w b 83 #[.int .i64 id, .pointer (some ⟨lb, 0, none⟩), pa, .pointer (some ⟨bg, 0, none⟩)] ∧ Blk w b1 35 (msgE.arr m) ∧ Blk w bg 39 (lnE.arr gx) ∧ True) ?_
  intro w17 hN18
  replace hB := hB.new hN18
  replace B4 := B4.new hN18
  replace hGB := hGB.new hN18
  have hS9 := And.intro hB (And.intro B4 (And.intro hGB trivial))
  refine Zhm 0 hS9 ?_
  refine Zhc 1 hS9 ?_
  refine Zhf 2 fo83_1 hS9 ?_
  refine Zhl 3 pl79 hS9 (fun _ ⟨hB, _⟩ => (hB.cell 1 rfl)) ?_
  refine Zhf 4 fo35_3 hS9 ?_
  refine Zhl (v := .int .u32 m.line) 5 pl32 hS9 (fun _ ⟨_, B4, _⟩ => (B4.cell 3 rfl)) ?_
  refine Zh2 6 10 ?_ ?_
  ·replace hL := (((hL.new hN10).only hO14 (ne1P ap_FpL_b8)).new hN16).new hN18
   refine Zk (args := #[.pointer (some ⟨lb, 0, none⟩), .int .u32 m.line]) cf55 (find_c m.line (by omega) hL) ?_
   rintro v w19 ⟨rfl, hN20⟩
   replace hB := hB.new hN20
   replace B4 := B4.new hN20
   replace hGB := hGB.new hN20
   refine Zhb ⟨hB, B4, hGB, trivial⟩ ?_
   have hS9 := And.intro hB (And.intro B4 (And.intro hGB trivial))
   refine Zhm 7 hS9 ?_
   refine Zhx 8 hS9 ?_
   refine Zhx 9 hS9 ?_
   refine Zh1 10 ?_
   refine Zna (z := zv1) (cs := lnE.arr ln0) (by kernel_rfl) fun b21 w22 hN23 B24 hb25 => ?_
   have ne_b_b21 := nelt hB.lt hb25
   replace hL := hL.new hN20
   have ap_FpL_b21 := hL.apart hb25
   replace hA := ((((hA.new hN10).only hO14 (ne1P ap_FpA_b8)).new hN16).new hN18).new hN20
   have ap_FpA_b21 := hA.apart hb25
   have ne_b1_b21 := nelt B4.lt hb25
   replace B11 := ((B11.new hN16).new hN18).new hN20
   have ne_b8_b21 := nelt B11.lt hb25
   have ne_bg_b21 := nelt hGB.lt hb25
   replace hF := ((((hF.trNew hN10).loc hO14 (.inr g_b8)).trNew hN16).trNew hN18).trNew hN20
   have g_b21 := hF.sz hb25
   replace hB := hB.new hN23
   replace B4 := B4.new hN23
   replace hGB := hGB.new hN23
   refine Zhb ⟨hB, B4, hGB, trivial⟩ ?_
   refine Zh1 11 ?_
   refine ZsS sz39 (lnE.all _) B24 (lnE.size _) (lnE.size _) fun w26 hO27 B24 => ?_
   replace hB := hB.only hO27 ne_b_b21
   replace B4 := B4.only hO27 ne_b1_b21
   replace hGB := hGB.only hO27 ne_bg_b21
   refine Zhb ⟨hB, B4, hGB, trivial⟩ ?_
   refine Zhn ?_
   refine Ztl ?_
   refine Za ?_
   intro a fr
   refine wpList_nil ?_
   refine fx_next ?_
   replace hL := (hL.new hN23).only hO27 (ne1P ap_FpL_b21)
   replace hA := (hA.new hN23).only hO27 (ne1P ap_FpA_b21)
   replace B11 := (B11.new hN23).only hO27 ne_b8_b21
   replace hF := (hF.trNew hN23).loc hO27 (.inr g_b21)
   exact ⟨b21, fr.sub ⟨rfl, rfl, rfl, rfl, rfl, trivial⟩, hF, hB, hL, hA, B4, B11, hGB, B24, (by first | exact ne_b_b21 | exact ne_b21_b.symm), ap_FpL_b21, ap_FpA_b21, (by first | exact ne_b1_b21 | exact ne_b21_b1.symm), (by first | exact ne_b8_b21 | exact ne_b21_b8.symm), (by first | exact ne_bg_b21 | exact ne_b21_bg.symm), g_b21⟩
  ·refine Zna (z := zv1) (cs := lnE.arr ln0) (by kernel_rfl) fun b28 w29 hN30 B31 hb32 => ?_
   have ne_b_b28 := nelt hB.lt hb32
   replace hL := (((hL.new hN10).only hO14 (ne1P ap_FpL_b8)).new hN16).new hN18
   have ap_FpL_b28 := hL.apart hb32
   replace hA := (((hA.new hN10).only hO14 (ne1P ap_FpA_b8)).new hN16).new hN18
   have ap_FpA_b28 := hA.apart hb32
   have ne_b1_b28 := nelt B4.lt hb32
   replace B11 := (B11.new hN16).new hN18
   have ne_b8_b28 := nelt B11.lt hb32
   have ne_bg_b28 := nelt hGB.lt hb32
   replace hF := (((hF.trNew hN10).loc hO14 (.inr g_b8)).trNew hN16).trNew hN18
   have g_b28 := hF.sz hb32
   replace hB := hB.new hN30
   replace B4 := B4.new hN30
   replace hGB := hGB.new hN30
   refine Zhb ⟨hB, B4, hGB, trivial⟩ ?_
   refine Zh1 6 ?_
   replace hL := hL.new hN30
   refine Zk (args := #[.pointer (some ⟨lb, 0, none⟩), .int .u32 m.line]) cf55 (find_c m.line (by omega) hL) ?_
   rintro v w33 ⟨rfl, hN34⟩
   replace hB := hB.new hN34
   replace B4 := B4.new hN34
   replace hGB := hGB.new hN34
   refine Zhb ⟨hB, B4, hGB, trivial⟩ ?_
   have hS9 := And.intro hB (And.intro B4 (And.intro hGB trivial))
   refine Zhm 7 hS9 ?_
   refine Zhx 8 hS9 ?_
   refine Zhx 9 hS9 ?_
   refine Zh1 11 ?_
   replace B31 := B31.new hN34
   refine ZsS sz39 (lnE.all _) B31 (lnE.size _) (lnE.size _) fun w35 hO36 B31 => ?_
   replace hB := hB.only hO36 ne_b_b28
   replace B4 := B4.only hO36 ne_b1_b28
   replace hGB := hGB.only hO36 ne_bg_b28
   refine Zhb ⟨hB, B4, hGB, trivial⟩ ?_
   refine Zhn ?_
   refine Ztl ?_
   refine Za ?_
   intro a fr
   refine wpList_nil ?_
   refine fx_next ?_
   replace hA := ((hA.new hN30).new hN34).only hO36 (ne1P ap_FpA_b28)
   replace B11 := ((B11.new hN30).new hN34).only hO36 ne_b8_b28
   replace hF := ((hF.trNew hN30).trNew hN34).loc hO36 (.inr g_b28)
   replace hL := (hL.new hN34).only hO36 (ne1P ap_FpL_b28)
   exact ⟨b28, fr.sub ⟨rfl, rfl, rfl, rfl, rfl, trivial⟩, hF, hB, hL, hA, B4, B11, hGB, B31, (by first | exact ne_b_b28 | exact ne_b28_b.symm), ap_FpL_b28, ap_FpA_b28, (by first | exact ne_b1_b28 | exact ne_b28_b1.symm), (by first | exact ne_b8_b28 | exact ne_b28_b8.symm), (by first | exact ne_bg_b28 | exact ne_b28_bg.symm), g_b28⟩
 clear fr a
 replace hL := ((hL.new hN10).only hO14 (ne1P ap_FpL_b8)).new hN16
 replace hA := ((hA.new hN10).only hO14 (ne1P ap_FpA_b8)).new hN16
 replace hF := ((hF.trNew hN10).loc hO14 (.inr g_b8)).trNew hN16
 replace B11 := B11.new hN16
 rintro a w17 ⟨b21, fr, hF, hB, hL, hA, B4, B11, hGB, B24, ne_b_b21, ap_FpL_b21, ap_FpA_b21, ne_b1_b21, ne_b8_b21, ne_bg_b21, g_b21⟩
 revert a
 refine Zsr ?_
 refine Zf fo39_1 ?_
 refine Zd (v := .int .i64 (((getN L m.line).getD ln0).state)) pl36 (B24.cell 1 rfl) ?_
 refine Zk cf44 (writes_c (((getN L m.line).getD ln0).state) _) ?_
 rintro v _ ⟨rfl, hw9⟩
 obtain rfl := hw9.symm
 intro a fr
 rw [hw'] at fr
 revert a
 refine Zk cf78 (must_ok 220 _) ?_
 rintro v w9 ⟨rfl, hw9⟩
 obtain rfl := hw9.symm
 refine Znn ?_
 refine Zsr ?_
 refine Zf fo39_2 ?_
 refine ZE (p := ((getN L m.line).getD ln0).bs) bsE ag22 (B24.part (ln_bs _)) ?_
 refine Zf fo35_4 ?_
 intro a fr
 refine fx_storePart (E := msgE) (E2 := bsE) (q := 4) (m := (mkM 11 id 4 m.line)) (m' := { (mkM 11 id 4 m.line) with bs := ((getN L m.line).getD ln0).bs }) (z := ((getN L m.line).getD ln0).bs) sz22 rfl rfl rfl (fr.ev rfl) (fr.ev rfl) B11 (by decide) (msg_setbs _ _) fun w41 hO42 hBq => ?_
 revert a
 replace B11 := hBq
 clear hBq
 refine Znq ?_
 refine Zsr ?_
 refine Zf fo35_0 ?_
 replace B4 := B4.only hO42 ne_b1_b8
 refine Zd (v := .int .i64 m.kind) pl33 (B4.cell 0 rfl) ?_
 refine Zv (.bool true) (fun _ fr => x_eql rfl (fr.ev rfl) rfl (decide_eq_true (by omega))) ?_
 refine Znt ?_
 refine Zsr ?_
 refine Zf fo39_1 ?_
 replace B24 := B24.only hO42 ne_b8_b21.symm
 refine Zs1 (cs' := lnE.arr { ((getN L m.line).getD ln0) with state := 1 }) sz36 B24 (by rw [lnE.size]; decide) (ln_setstate _ _) fun w43 hO44 B24 => ?_
 refine Znn ?_
 refine Zhd (n := 6) (fun w => Blk w b 83 #[.int .i64 id, .pointer (some ⟨lb, 0, none⟩), pa, .pointer (some ⟨bg, 0, none⟩)] ∧ Blk w b21 39 (lnE.arr { ((getN L m.line).getD ln0) with state := 1 }) ∧ True) ?_
 intro w45 hN46
 replace hB := ((hB.only hO42 ne_b_b8).only hO44 ne_b_b21).new hN46
 replace B24 := B24.new hN46
 have hS9 := And.intro hB (And.intro B24 trivial)
 refine Zhm 0 hS9 ?_
 refine Zhc 1 hS9 ?_
 refine Zhf 2 fo83_1 hS9 ?_
 refine Zhl 3 pl79 hS9 (fun _ ⟨hB, _⟩ => (hB.cell 1 rfl)) ?_
 refine ZhE 4 lnE ag39 hS9 (fun _ ⟨_, B24, _⟩ => (B24.rangeE lnE)) ?_
 refine Zh1 5 ?_
 replace hL := ((hL.only hO42 (ne1P ap_FpL_b8)).only hO44 (ne1P ap_FpL_b21)).new hN46
 refine Zk cf56 (put_c ({ ((getN L m.line).getD ln0) with state := 1 }) hL) ?_
 rintro v w50 ⟨rfl, Fp47, H48, hN51, mv49⟩
 have ap_Fp47_b : ¬ Fp47 b := moved_apartP mv49 ap_FpL_b hB.lt
 replace hA := ((hA.only hO42 (ne1P ap_FpA_b8)).only hO44 (ne1P ap_FpA_b21)).new hN46
 have ap2_Fp47_FpA : ∀ k, Fp47 k → FpA k → False := moved_apart2P mv49 ap2_FpL_FpA fun _ hg => hA.lt hg
 replace hGB := ((hGB.only hO42 ne_bg_b8).only hO44 ne_bg_b21).new hN46
 have ap_Fp47_bg : ¬ Fp47 bg := moved_apartP mv49 ap_FpL_bg hGB.lt
 replace hF := ((hF.loc hO42 (.inr g_b8)).loc hO44 (.inr g_b21)).trNew hN46
 have gA_Fp47 := gA_movedP hF mv49 gA_FpL
 clear hL
 replace hB := hB.only hN51 ap_FpL_b
 replace B24 := B24.only hN51 ap_FpL_b21
 refine Zhb ⟨hB, B24, trivial⟩ ?_
 refine Zhn ?_
 refine Znx ?_
 refine Zsr ?_
 replace B11 := ((B11.only hO44 ne_b8_b21).new hN46).only hN51 ap_FpL_b8
 refine ZE msgE ag35 (B11.rangeE msgE) ?_
 intro a fr
 refine fx_build1 (E := msgE) (p := { (mkM 11 id 4 m.line) with bs := ((getN L m.line).getD ln0).bs }) elMsg (by decide) fr rfl rfl (by decide) rfl (fr.ev rfl) ?_
 clear fr a
 intro A52 w53 hN54 O55 hA56
 replace hF := hF.locP hN51 gA_FpL
 have gN_A52 := fun g (hg : inA A52 g) => Nat.le_trans hF.size (hA56 g hg)
 refine Zar ?_
 refine Zre rfl [_] ⟨rfl, trivial⟩ ?_
 replace hA := (hA.only hN51 (fun g h1 h2 => (symP ap2_FpL_FpA) g h1 h2)).new hN54
 replace hGB := (hGB.only hN51 ap_FpL_bg).new hN54
 replace hB := hB.new hN54
 replace H48 := H48.new hN54
 replace hF := hF.trNew hN54
 exact ⟨_, rfl, A52, 1, rfl, O55, gN_A52, (fun k => k = b ∨ Fp47 k ∨ FpA k ∨ (fun k => k = bg) k), ⟨lb, Fp47, _, _, FpA, (fun k => k = bg), hB, H48, hA, ⟨bg, rfl, hGB, fun _ => Iff.rfl⟩, ⟨ap_Fp47_b, ap_FpA_b, (fun e => (show ¬ b = bg from ne_bg_b.symm) e), ap2_Fp47_FpA, (fun k hk e => ap_Fp47_bg (e ▸ hk)), (fun k hk e => ap_FpA_bg (e ▸ hk)), fun _ => Iff.rfl⟩⟩, hF, (fun g hg => hg.elim (fun e => by rw [e]; exact .inl ((hP.foot b).2 (.inl rfl))) fun h => h.elim (gA_Fp47 g) fun h => h.elim (gA_FpA g) (fun e => by rw [e]; exact gi_bg))⟩
theorem back_dg {w : World} {Fp : Nat → Prop} {b : Nat} {id : Int} {n : Nat} {ways : Int} {L : List Ln} {ask : Option (Int × Bool)} {gx : Ln} (H : CacheAt w Fp b ⟨id, n, ways, L, ask, (some gx)⟩) (m : Msg) (hg : ¬ gx.num = m.line) (hw : writesB (stateOf L m.line) = true) (hk : ¬ m.kind = 4) : Calls Try.prog 51 #[.pointer (some ⟨b, 0, none⟩), .agg (msgE.arr m)] w (Ret fun v w' => ∃ A' cap', v = .slice A' ([mkM 11 id 4 m.line ((getN L m.line).getD ln0).bs m.hn]).length cap' ∧ Own msgE w' A' cap' ([mkM 11 id 4 m.line ((getN L m.line).getD ln0).bs m.hn]) ∧ (∀ g, inA A' g → w.heap.size ≤ g) ∧ ∃ Fp', CacheAt w' Fp' b ⟨id, n, ways, dropL L ((getN L m.line).getD ln0).num, ask, (some gx)⟩ ∧ Only Fp w w' ∧ ∀ g, Fp' g → Fp g ∨ w.heap.size ≤ g) := by
 obtain ⟨lb, FpL, pa, pg, FpA, FpG, hB, hL, hA, hG, hP⟩ := H
 dsimp only at hB hL hA hG
 have ap_FpL_b := hP.lb
 have ap_FpA_b := hP.ab
 have ap_FpG_b := hP.gb
 have ap2_FpL_FpA := hP.la
 have ap2_FpL_FpG := hP.lg
 have ap2_FpA_FpG := hP.ag
 obtain ⟨hn1, hn2, hw1, hw2⟩ := hL.bd
 have gA_FpL : ∀ g, FpL g → Fp g ∨ w.heap.size ≤ g := fun g hg => .inl ((hP.foot g).2 (.inr (.inl hg)))
 have gA_FpA : ∀ g, FpA g → Fp g ∨ w.heap.size ≤ g := fun g hg => .inl ((hP.foot g).2 (.inr (.inr (.inl hg))))
 have gA_FpG : ∀ g, FpG g → Fp g ∨ w.heap.size ≤ g := fun g hg => .inl ((hP.foot g).2 (.inr (.inr (.inr hg))))
 have hmn := m.hn
 have hw' : writesB (((getN L m.line).getD ln0).state) = true := hw
 have hxn := ((getN L m.line).getD ln0).hn
 have hF := Only.refl (Fp) w
 refine Zen 75 Try.func51 ?_
 refine Zsr ?_
 refine Znb (cs := msgE.arr m) fun b1 w2 hN3 B4 hb5 => ?_
 refine Zan ?_
 refine Zsm ?_
 refine Zf fo35_3 ?_
 refine Zd (v := .int .u32 m.line) pl32 (B4.cell 3 rfl) ?_
 replace hB := hB.new hN3
 refine Zk (args := #[.pointer (some ⟨b, 0, none⟩), .int .i64 11, .int .u32 m.line]) cf47 (msg_c hB 11 m.line (by omega)) ?_
 rintro v w6 ⟨rfl, hN7⟩
 refine Zna (z := zv3) (cs := msgE.arr msg0) (by kernel_rfl) fun b8 w9 hN10 B11 hb12 => ?_
 replace hB := hB.new hN7
 have ne_b_b8 := nelt hB.lt hb12
 replace hL := (hL.new hN3).new hN7
 have ap_FpL_b8 := hL.apart hb12
 replace hA := (hA.new hN3).new hN7
 have ap_FpA_b8 := hA.apart hb12
 replace hG := (hG.new hN3).new hN7
 have ap_FpG_b8 := hG.apart hb12
 replace B4 := B4.new hN7
 have ne_b1_b8 := nelt B4.lt hb12
 replace hF := (hF.trNew hN3).trNew hN7
 have g_b8 := hF.sz hb12
 refine ZsS sz35 (msgE.all _) B11 (msgE.size _) (msgE.size _) fun w13 hO14 B11 => ?_
 refine Znq ?_
 refine Zsq ?_
 replace hG := (hG.new hN10).only hO14 (ne1P ap_FpG_b8)
 obtain ⟨bg, rfl, hGB, hGF⟩ := hG
 have ne_bg_b : NE bg b := fun e => ap_FpG_b (e ▸ (hGF bg).2 rfl)
 have ap_FpL_bg : ¬ FpL bg := fun h => ap2_FpL_FpG bg h ((hGF bg).2 rfl)
 have ap_FpA_bg : ¬ FpA bg := fun h => ap2_FpA_FpG bg h ((hGF bg).2 rfl)
 have ne_bg_b8 : NE bg b8 := fun e => ap_FpG_b8 (e ▸ (hGF bg).2 rfl)
 have gi_bg := gA_FpG bg ((hGF bg).2 rfl)
 refine Zhd (n := 17) (fun w => Blk w b 83 #[.int .i64 id, .pointer (some ⟨lb, 0, none⟩), pa, .pointer (some ⟨bg, 0, none⟩)] ∧ Blk w b1 35 (msgE.arr m) ∧ Blk w bg 39 (lnE.arr gx) ∧ True) ?_
 intro w15 hN16
 replace hB := ((hB.new hN10).only hO14 ne_b_b8).new hN16
 replace B4 := ((B4.new hN10).only hO14 ne_b1_b8).new hN16
 replace hGB := hGB.new hN16
 have hS9 := And.intro hB (And.intro B4 (And.intro hGB trivial))
 refine Zhm 0 hS9 ?_
 refine Zhc 1 hS9 ?_
 refine Zhf 2 fo83_3 hS9 ?_
 refine Zhl 3 pl81 hS9 (fun _ ⟨hB, _⟩ => (hB.cell 3 rfl)) ?_
 refine Zht 4 rfl (.bool true) hS9 (fun _ fr _ _ => x_pneq Try.underlying81 rfl (fr.ev rfl) rfl rfl) ?_
 refine Zhm 5 hS9 ?_
 refine Zhm 6 hS9 ?_
 refine Zhc 7 hS9 ?_
 refine Zhf 8 fo83_3 hS9 ?_
 refine Zhl 9 pl81 hS9 (fun _ ⟨hB, _⟩ => (hB.cell 3 rfl)) ?_
 refine Zhc 10 hS9 ?_
 refine Zhf 11 fo39_0 hS9 ?_
 refine Zhl (v := .int .u32 gx.num) 12 pl32 hS9 (fun _ ⟨_, _, hGB, _⟩ => (hGB.cell 0 rfl)) ?_
 refine Zhf 13 fo35_3 hS9 ?_
 refine Zhl (v := .int .u32 m.line) 14 pl32 hS9 (fun _ ⟨_, B4, _⟩ => (B4.cell 3 rfl)) ?_
 refine Zht 15 rfl (.bool false) hS9 (fun _ fr _ _ => x_eql rfl (fr.ev rfl) (fr.ev rfl) (decide_eq_false hg)) ?_
 refine Zht 16 rfl (.bool false) hS9 (fun _ fr _ _ => x_pick_t rfl (fr.ev rfl) (fr.ev rfl)) ?_
 refine Zhn ?_
 refine Znx ?_
 refine Zcf ?_
 refine Zkn ?_
 intro a fr
 refine fx_join (fun a wJ => ∃ b21 : Nat, Fr (75, []) [(0, .pointer (some ⟨b, 0, none⟩)), (3, .pointer (some ⟨b1, 0, none⟩)), (4, .slice none 0 0), (5, .pointer (some ⟨b8, 0, none⟩)), (6, .pointer (some ⟨b21, 0, none⟩))] a ∧ Only (Fp) w wJ ∧ Blk wJ b 83 #[.int .i64 id, .pointer (some ⟨lb, 0, none⟩), pa, .pointer (some ⟨bg, 0, none⟩)] ∧ LinesAt wJ FpL lb n ways L ∧ AskAt wJ FpA pa ask ∧ Blk wJ b1 35 (msgE.arr m) ∧ Blk wJ b8 35 (msgE.arr (mkM 11 id 4 m.line)) ∧ Blk wJ bg 39 (lnE.arr gx) ∧ Blk wJ b21 39 (lnE.arr ((getN L m.line).getD ln0)) ∧ (NE b b21) ∧ (¬ FpL b21) ∧ (¬ FpA b21) ∧ (NE b1 b21) ∧ (NE b8 b21) ∧ (NE bg b21) ∧ (w.heap.size ≤ b21)) ?_ ?_
 ·revert a
  refine ZhT (n := 12) 12 (fun w => Blk w b 83 #[.int .i64 id, .pointer (some ⟨lb, 0, none⟩), pa, .pointer (some ⟨bg, 0, none⟩)] ∧ Blk w b1 35 (msgE.arr m) ∧ Blk w bg 39 (lnE.arr gx) ∧ True) ?_
  intro w17 hN18
  replace hB := hB.new hN18
  replace B4 := B4.new hN18
  replace hGB := hGB.new hN18
  have hS9 := And.intro hB (And.intro B4 (And.intro hGB trivial))
  refine Zhm 0 hS9 ?_
  refine Zhc 1 hS9 ?_
  refine Zhf 2 fo83_1 hS9 ?_
  refine Zhl 3 pl79 hS9 (fun _ ⟨hB, _⟩ => (hB.cell 1 rfl)) ?_
  refine Zhf 4 fo35_3 hS9 ?_
  refine Zhl (v := .int .u32 m.line) 5 pl32 hS9 (fun _ ⟨_, B4, _⟩ => (B4.cell 3 rfl)) ?_
  refine Zh2 6 10 ?_ ?_
  ·replace hL := (((hL.new hN10).only hO14 (ne1P ap_FpL_b8)).new hN16).new hN18
   refine Zk (args := #[.pointer (some ⟨lb, 0, none⟩), .int .u32 m.line]) cf55 (find_c m.line (by omega) hL) ?_
   rintro v w19 ⟨rfl, hN20⟩
   replace hB := hB.new hN20
   replace B4 := B4.new hN20
   replace hGB := hGB.new hN20
   refine Zhb ⟨hB, B4, hGB, trivial⟩ ?_
   have hS9 := And.intro hB (And.intro B4 (And.intro hGB trivial))
   refine Zhm 7 hS9 ?_
   refine Zhx 8 hS9 ?_
   refine Zhx 9 hS9 ?_
   refine Zh1 10 ?_
   refine Zna (z := zv1) (cs := lnE.arr ln0) (by kernel_rfl) fun b21 w22 hN23 B24 hb25 => ?_
   have ne_b_b21 := nelt hB.lt hb25
   replace hL := hL.new hN20
   have ap_FpL_b21 := hL.apart hb25
   replace hA := ((((hA.new hN10).only hO14 (ne1P ap_FpA_b8)).new hN16).new hN18).new hN20
   have ap_FpA_b21 := hA.apart hb25
   have ne_b1_b21 := nelt B4.lt hb25
   replace B11 := ((B11.new hN16).new hN18).new hN20
   have ne_b8_b21 := nelt B11.lt hb25
   have ne_bg_b21 := nelt hGB.lt hb25
   replace hF := ((((hF.trNew hN10).loc hO14 (.inr g_b8)).trNew hN16).trNew hN18).trNew hN20
   have g_b21 := hF.sz hb25
   replace hB := hB.new hN23
   replace B4 := B4.new hN23
   replace hGB := hGB.new hN23
   refine Zhb ⟨hB, B4, hGB, trivial⟩ ?_
   refine Zh1 11 ?_
   refine ZsS sz39 (lnE.all _) B24 (lnE.size _) (lnE.size _) fun w26 hO27 B24 => ?_
   replace hB := hB.only hO27 ne_b_b21
   replace B4 := B4.only hO27 ne_b1_b21
   replace hGB := hGB.only hO27 ne_bg_b21
   refine Zhb ⟨hB, B4, hGB, trivial⟩ ?_
   refine Zhn ?_
   refine Ztl ?_
   refine Za ?_
   intro a fr
   refine wpList_nil ?_
   refine fx_next ?_
   replace hL := (hL.new hN23).only hO27 (ne1P ap_FpL_b21)
   replace hA := (hA.new hN23).only hO27 (ne1P ap_FpA_b21)
   replace B11 := (B11.new hN23).only hO27 ne_b8_b21
   replace hF := (hF.trNew hN23).loc hO27 (.inr g_b21)
   exact ⟨b21, fr.sub ⟨rfl, rfl, rfl, rfl, rfl, trivial⟩, hF, hB, hL, hA, B4, B11, hGB, B24, (by first | exact ne_b_b21 | exact ne_b21_b.symm), ap_FpL_b21, ap_FpA_b21, (by first | exact ne_b1_b21 | exact ne_b21_b1.symm), (by first | exact ne_b8_b21 | exact ne_b21_b8.symm), (by first | exact ne_bg_b21 | exact ne_b21_bg.symm), g_b21⟩
  ·refine Zna (z := zv1) (cs := lnE.arr ln0) (by kernel_rfl) fun b28 w29 hN30 B31 hb32 => ?_
   have ne_b_b28 := nelt hB.lt hb32
   replace hL := (((hL.new hN10).only hO14 (ne1P ap_FpL_b8)).new hN16).new hN18
   have ap_FpL_b28 := hL.apart hb32
   replace hA := (((hA.new hN10).only hO14 (ne1P ap_FpA_b8)).new hN16).new hN18
   have ap_FpA_b28 := hA.apart hb32
   have ne_b1_b28 := nelt B4.lt hb32
   replace B11 := (B11.new hN16).new hN18
   have ne_b8_b28 := nelt B11.lt hb32
   have ne_bg_b28 := nelt hGB.lt hb32
   replace hF := (((hF.trNew hN10).loc hO14 (.inr g_b8)).trNew hN16).trNew hN18
   have g_b28 := hF.sz hb32
   replace hB := hB.new hN30
   replace B4 := B4.new hN30
   replace hGB := hGB.new hN30
   refine Zhb ⟨hB, B4, hGB, trivial⟩ ?_
   refine Zh1 6 ?_
   replace hL := hL.new hN30
   refine Zk (args := #[.pointer (some ⟨lb, 0, none⟩), .int .u32 m.line]) cf55 (find_c m.line (by omega) hL) ?_
   rintro v w33 ⟨rfl, hN34⟩
   replace hB := hB.new hN34
   replace B4 := B4.new hN34
   replace hGB := hGB.new hN34
   refine Zhb ⟨hB, B4, hGB, trivial⟩ ?_
   have hS9 := And.intro hB (And.intro B4 (And.intro hGB trivial))
   refine Zhm 7 hS9 ?_
   refine Zhx 8 hS9 ?_
   refine Zhx 9 hS9 ?_
   refine Zh1 11 ?_
   replace B31 := B31.new hN34
   refine ZsS sz39 (lnE.all _) B31 (lnE.size _) (lnE.size _) fun w35 hO36 B31 => ?_
   replace hB := hB.only hO36 ne_b_b28
   replace B4 := B4.only hO36 ne_b1_b28
   replace hGB := hGB.only hO36 ne_bg_b28
   refine Zhb ⟨hB, B4, hGB, trivial⟩ ?_
   refine Zhn ?_
   refine Ztl ?_
   refine Za ?_
   intro a fr
   refine wpList_nil ?_
   refine fx_next ?_
   replace hA := ((hA.new hN30).new hN34).only hO36 (ne1P ap_FpA_b28)
   replace B11 := ((B11.new hN30).new hN34).only hO36 ne_b8_b28
   replace hF := ((hF.trNew hN30).trNew hN34).loc hO36 (.inr g_b28)
   replace hL := (hL.new hN34).only hO36 (ne1P ap_FpL_b28)
   exact ⟨b28, fr.sub ⟨rfl, rfl, rfl, rfl, rfl, trivial⟩, hF, hB, hL, hA, B4, B11, hGB, B31, (by first | exact ne_b_b28 | exact ne_b28_b.symm), ap_FpL_b28, ap_FpA_b28, (by first | exact ne_b1_b28 | exact ne_b28_b1.symm), (by first | exact ne_b8_b28 | exact ne_b28_b8.symm), (by first | exact ne_bg_b28 | exact ne_b28_bg.symm), g_b28⟩
 clear fr a
 replace hL := ((hL.new hN10).only hO14 (ne1P ap_FpL_b8)).new hN16
 replace hA := ((hA.new hN10).only hO14 (ne1P ap_FpA_b8)).new hN16
 replace hF := ((hF.trNew hN10).loc hO14 (.inr g_b8)).trNew hN16
 replace B11 := B11.new hN16
 rintro a w17 ⟨b21, fr, hF, hB, hL, hA, B4, B11, hGB, B24, ne_b_b21, ap_FpL_b21, ap_FpA_b21, ne_b1_b21, ne_b8_b21, ne_bg_b21, g_b21⟩
 revert a
 refine Zsr ?_
 refine Zf fo39_1 ?_
 refine Zd (v := .int .i64 (((getN L m.line).getD ln0).state)) pl36 (B24.cell 1 rfl) ?_
 refine Zk cf44 (writes_c (((getN L m.line).getD ln0).state) _) ?_
 rintro v _ ⟨rfl, hw9⟩
 obtain rfl := hw9.symm
 intro a fr
 rw [hw'] at fr
 revert a
 refine Zk cf78 (must_ok 220 _) ?_
 rintro v w9 ⟨rfl, hw9⟩
 obtain rfl := hw9.symm
 refine Znn ?_
 refine Zsr ?_
 refine Zf fo39_2 ?_
 refine ZE (p := ((getN L m.line).getD ln0).bs) bsE ag22 (B24.part (ln_bs _)) ?_
 refine Zf fo35_4 ?_
 intro a fr
 refine fx_storePart (E := msgE) (E2 := bsE) (q := 4) (m := (mkM 11 id 4 m.line)) (m' := { (mkM 11 id 4 m.line) with bs := ((getN L m.line).getD ln0).bs }) (z := ((getN L m.line).getD ln0).bs) sz22 rfl rfl rfl (fr.ev rfl) (fr.ev rfl) B11 (by decide) (msg_setbs _ _) fun w41 hO42 hBq => ?_
 revert a
 replace B11 := hBq
 clear hBq
 refine Znq ?_
 refine Zsr ?_
 refine Zf fo35_0 ?_
 replace B4 := B4.only hO42 ne_b1_b8
 refine Zd (v := .int .i64 m.kind) pl33 (B4.cell 0 rfl) ?_
 refine Zv (.bool false) (fun _ fr => x_eql rfl (fr.ev rfl) rfl (decide_eq_false hk)) ?_
 refine Znf ?_
 refine Zhd (n := 7) (fun w => Blk w b 83 #[.int .i64 id, .pointer (some ⟨lb, 0, none⟩), pa, .pointer (some ⟨bg, 0, none⟩)] ∧ Blk w b21 39 (lnE.arr ((getN L m.line).getD ln0)) ∧ True) ?_
 intro w43 hN44
 replace hB := (hB.only hO42 ne_b_b8).new hN44
 replace B24 := (B24.only hO42 ne_b8_b21.symm).new hN44
 have hS9 := And.intro hB (And.intro B24 trivial)
 refine Zhm 0 hS9 ?_
 refine Zhc 1 hS9 ?_
 refine Zhf 2 fo83_1 hS9 ?_
 refine Zhl 3 pl79 hS9 (fun _ ⟨hB, _⟩ => (hB.cell 1 rfl)) ?_
 refine Zhf 4 fo39_0 hS9 ?_
 refine Zhl (v := .int .u32 (((getN L m.line).getD ln0).num)) 5 pl32 hS9 (fun _ ⟨_, B24, _⟩ => (B24.cell 0 rfl)) ?_
 refine Zh1 6 ?_
 replace hL := (hL.only hO42 (ne1P ap_FpL_b8)).new hN44
 refine Zk (args := #[.pointer (some ⟨lb, 0, none⟩), .int .u32 (((getN L m.line).getD ln0).num)]) cf76 (drop_c (((getN L m.line).getD ln0).num) (by omega) hL) ?_
 rintro v w48 ⟨rfl, Fp45, H46, hN49, mv47⟩
 have ap_Fp45_b : ¬ Fp45 b := moved_apartP mv47 ap_FpL_b hB.lt
 replace hA := (hA.only hO42 (ne1P ap_FpA_b8)).new hN44
 have ap2_Fp45_FpA : ∀ k, Fp45 k → FpA k → False := moved_apart2P mv47 ap2_FpL_FpA fun _ hg => hA.lt hg
 replace hGB := (hGB.only hO42 ne_bg_b8).new hN44
 have ap_Fp45_bg : ¬ Fp45 bg := moved_apartP mv47 ap_FpL_bg hGB.lt
 replace hF := (hF.loc hO42 (.inr g_b8)).trNew hN44
 have gA_Fp45 := gA_movedP hF mv47 gA_FpL
 clear hL
 replace hB := hB.only hN49 ap_FpL_b
 replace B24 := B24.only hN49 ap_FpL_b21
 refine Zhb ⟨hB, B24, trivial⟩ ?_
 refine Zhn ?_
 refine Znx ?_
 refine Zsr ?_
 replace B11 := (B11.new hN44).only hN49 ap_FpL_b8
 refine ZE msgE ag35 (B11.rangeE msgE) ?_
 intro a fr
 refine fx_build1 (E := msgE) (p := { (mkM 11 id 4 m.line) with bs := ((getN L m.line).getD ln0).bs }) elMsg (by decide) fr rfl rfl (by decide) rfl (fr.ev rfl) ?_
 clear fr a
 intro A50 w51 hN52 O53 hA54
 replace hF := hF.locP hN49 gA_FpL
 have gN_A50 := fun g (hg : inA A50 g) => Nat.le_trans hF.size (hA54 g hg)
 refine Zar ?_
 refine Zre rfl [_] ⟨rfl, trivial⟩ ?_
 replace hA := (hA.only hN49 (fun g h1 h2 => (symP ap2_FpL_FpA) g h1 h2)).new hN52
 replace hGB := (hGB.only hN49 ap_FpL_bg).new hN52
 replace hB := hB.new hN52
 replace H46 := H46.new hN52
 replace hF := hF.trNew hN52
 exact ⟨_, rfl, A50, 1, rfl, O53, gN_A50, (fun k => k = b ∨ Fp45 k ∨ FpA k ∨ (fun k => k = bg) k), ⟨lb, Fp45, _, _, FpA, (fun k => k = bg), hB, H46, hA, ⟨bg, rfl, hGB, fun _ => Iff.rfl⟩, ⟨ap_Fp45_b, ap_FpA_b, (fun e => (show ¬ b = bg from ne_bg_b.symm) e), ap2_Fp45_FpA, (fun k hk e => ap_Fp45_bg (e ▸ hk)), (fun k hk e => ap_FpA_bg (e ▸ hk)), fun _ => Iff.rfl⟩⟩, hF, (fun g hg => hg.elim (fun e => by rw [e]; exact .inl ((hP.foot b).2 (.inl rfl))) fun h => h.elim (gA_Fp45 g) fun h => h.elim (gA_FpA g) (fun e => by rw [e]; exact gi_bg))⟩
theorem back_nog {w : World} {Fp : Nat → Prop} {b : Nat} {id : Int} {n : Nat} {ways : Int} {L : List Ln} {ask : Option (Int × Bool)} {gx : Ln} (H : CacheAt w Fp b ⟨id, n, ways, L, ask, (some gx)⟩) (m : Msg) (hg : ¬ gx.num = m.line) (hw : writesB (stateOf L m.line) = false) : Calls Try.prog 51 #[.pointer (some ⟨b, 0, none⟩), .agg (msgE.arr m)] w (Pan fun c w' => c = stopE 220 ∧ New w w') := by
 obtain ⟨lb, FpL, pa, pg, FpA, FpG, hB, hL, hA, hG, hP⟩ := H
 dsimp only at hB hL hA hG
 obtain ⟨hn1, hn2, hw1, hw2⟩ := hL.bd
 have hmn := m.hn
 have gA_FpG := fun g (hg : FpG g) => (Or.inl trivial : True ∨ w.heap.size ≤ g)
 have hF := Only.refl (fun _ => False) w
 refine Zen 75 Try.func51 ?_
 refine Zsr ?_
 refine Znb (cs := msgE.arr m) fun b1 w2 hN3 B4 hb5 => ?_
 refine Zan ?_
 refine Zsm ?_
 refine Zf fo35_3 ?_
 refine Zd (v := .int .u32 m.line) pl32 (B4.cell 3 rfl) ?_
 replace hB := hB.new hN3
 refine Zk (args := #[.pointer (some ⟨b, 0, none⟩), .int .i64 11, .int .u32 m.line]) cf47 (msg_c hB 11 m.line (by omega)) ?_
 rintro v w6 ⟨rfl, hN7⟩
 refine Zna (z := zv3) (cs := msgE.arr msg0) (by kernel_rfl) fun b8 w9 hN10 B11 hb12 => ?_
 replace hB := hB.new hN7
 have ne_b_b8 := nelt hB.lt hb12
 replace hL := (hL.new hN3).new hN7
 have ap_FpL_b8 := hL.apart hb12
 replace hA := (hA.new hN3).new hN7
 have ap_FpA_b8 := hA.apart hb12
 replace hG := (hG.new hN3).new hN7
 have ap_FpG_b8 := hG.apart hb12
 replace B4 := B4.new hN7
 have ne_b1_b8 := nelt B4.lt hb12
 replace hF := (hF.trNew hN3).trNew hN7
 have g_b8 := hF.sz hb12
 refine ZsS sz35 (msgE.all _) B11 (msgE.size _) (msgE.size _) fun w13 hO14 B11 => ?_
 refine Znq ?_
 refine Zsq ?_
 replace hG := (hG.new hN10).only hO14 (ne1P ap_FpG_b8)
 obtain ⟨bg, rfl, hGB, hGF⟩ := hG
 have gi_bg := gA_FpG bg ((hGF bg).2 rfl)
 refine Zhd (n := 17) (fun w => Blk w b 83 #[.int .i64 id, .pointer (some ⟨lb, 0, none⟩), pa, .pointer (some ⟨bg, 0, none⟩)] ∧ Blk w b1 35 (msgE.arr m) ∧ Blk w bg 39 (lnE.arr gx) ∧ True) ?_
 intro w15 hN16
 replace hB := ((hB.new hN10).only hO14 ne_b_b8).new hN16
 replace B4 := ((B4.new hN10).only hO14 ne_b1_b8).new hN16
 replace hGB := hGB.new hN16
 have hS9 := And.intro hB (And.intro B4 (And.intro hGB trivial))
 refine Zhm 0 hS9 ?_
 refine Zhc 1 hS9 ?_
 refine Zhf 2 fo83_3 hS9 ?_
 refine Zhl 3 pl81 hS9 (fun _ ⟨hB, _⟩ => (hB.cell 3 rfl)) ?_
 refine Zht 4 rfl (.bool true) hS9 (fun _ fr _ _ => x_pneq Try.underlying81 rfl (fr.ev rfl) rfl rfl) ?_
 refine Zhm 5 hS9 ?_
 refine Zhm 6 hS9 ?_
 refine Zhc 7 hS9 ?_
 refine Zhf 8 fo83_3 hS9 ?_
 refine Zhl 9 pl81 hS9 (fun _ ⟨hB, _⟩ => (hB.cell 3 rfl)) ?_
 refine Zhc 10 hS9 ?_
 refine Zhf 11 fo39_0 hS9 ?_
 refine Zhl (v := .int .u32 gx.num) 12 pl32 hS9 (fun _ ⟨_, _, hGB, _⟩ => (hGB.cell 0 rfl)) ?_
 refine Zhf 13 fo35_3 hS9 ?_
 refine Zhl (v := .int .u32 m.line) 14 pl32 hS9 (fun _ ⟨_, B4, _⟩ => (B4.cell 3 rfl)) ?_
 refine Zht 15 rfl (.bool false) hS9 (fun _ fr _ _ => x_eql rfl (fr.ev rfl) (fr.ev rfl) (decide_eq_false hg)) ?_
 refine Zht 16 rfl (.bool false) hS9 (fun _ fr _ _ => x_pick_t rfl (fr.ev rfl) (fr.ev rfl)) ?_
 refine Zhn ?_
 refine Znx ?_
 refine Zcf ?_
 refine Zkn ?_
 intro a fr
 refine fx_join (fun a wJ => ∃ b21 : Nat, Fr (75, []) [(0, .pointer (some ⟨b, 0, none⟩)), (3, .pointer (some ⟨b1, 0, none⟩)), (4, .slice none 0 0), (5, .pointer (some ⟨b8, 0, none⟩)), (6, .pointer (some ⟨b21, 0, none⟩))] a ∧ Only (fun _ => False) w wJ ∧ Blk wJ b 83 #[.int .i64 id, .pointer (some ⟨lb, 0, none⟩), pa, .pointer (some ⟨bg, 0, none⟩)] ∧ LinesAt wJ FpL lb n ways L ∧ AskAt wJ FpA pa ask ∧ Blk wJ b1 35 (msgE.arr m) ∧ Blk wJ b8 35 (msgE.arr (mkM 11 id 4 m.line)) ∧ Blk wJ bg 39 (lnE.arr gx) ∧ Blk wJ b21 39 (lnE.arr ((getN L m.line).getD ln0)) ∧ (NE b b21) ∧ (¬ FpL b21) ∧ (¬ FpA b21) ∧ (NE b1 b21) ∧ (NE b8 b21) ∧ (NE bg b21) ∧ (w.heap.size ≤ b21)) ?_ ?_
 ·revert a
  refine ZhT (n := 12) 12 (fun w => Blk w b 83 #[.int .i64 id, .pointer (some ⟨lb, 0, none⟩), pa, .pointer (some ⟨bg, 0, none⟩)] ∧ Blk w b1 35 (msgE.arr m) ∧ Blk w bg 39 (lnE.arr gx) ∧ True) ?_
  intro w17 hN18
  replace hB := hB.new hN18
  replace B4 := B4.new hN18
  replace hGB := hGB.new hN18
  have hS9 := And.intro hB (And.intro B4 (And.intro hGB trivial))
  refine Zhm 0 hS9 ?_
  refine Zhc 1 hS9 ?_
  refine Zhf 2 fo83_1 hS9 ?_
  refine Zhl 3 pl79 hS9 (fun _ ⟨hB, _⟩ => (hB.cell 1 rfl)) ?_
  refine Zhf 4 fo35_3 hS9 ?_
  refine Zhl (v := .int .u32 m.line) 5 pl32 hS9 (fun _ ⟨_, B4, _⟩ => (B4.cell 3 rfl)) ?_
  refine Zh2 6 10 ?_ ?_
  ·replace hL := (((hL.new hN10).only hO14 (ne1P ap_FpL_b8)).new hN16).new hN18
   refine Zk (args := #[.pointer (some ⟨lb, 0, none⟩), .int .u32 m.line]) cf55 (find_c m.line (by omega) hL) ?_
   rintro v w19 ⟨rfl, hN20⟩
   replace hB := hB.new hN20
   replace B4 := B4.new hN20
   replace hGB := hGB.new hN20
   refine Zhb ⟨hB, B4, hGB, trivial⟩ ?_
   have hS9 := And.intro hB (And.intro B4 (And.intro hGB trivial))
   refine Zhm 7 hS9 ?_
   refine Zhx 8 hS9 ?_
   refine Zhx 9 hS9 ?_
   refine Zh1 10 ?_
   refine Zna (z := zv1) (cs := lnE.arr ln0) (by kernel_rfl) fun b21 w22 hN23 B24 hb25 => ?_
   have ne_b_b21 := nelt hB.lt hb25
   replace hL := hL.new hN20
   have ap_FpL_b21 := hL.apart hb25
   replace hA := ((((hA.new hN10).only hO14 (ne1P ap_FpA_b8)).new hN16).new hN18).new hN20
   have ap_FpA_b21 := hA.apart hb25
   have ne_b1_b21 := nelt B4.lt hb25
   replace B11 := ((B11.new hN16).new hN18).new hN20
   have ne_b8_b21 := nelt B11.lt hb25
   have ne_bg_b21 := nelt hGB.lt hb25
   replace hF := ((((hF.trNew hN10).loc hO14 (.inr g_b8)).trNew hN16).trNew hN18).trNew hN20
   have g_b21 := hF.sz hb25
   replace hB := hB.new hN23
   replace B4 := B4.new hN23
   replace hGB := hGB.new hN23
   refine Zhb ⟨hB, B4, hGB, trivial⟩ ?_
   refine Zh1 11 ?_
   refine ZsS sz39 (lnE.all _) B24 (lnE.size _) (lnE.size _) fun w26 hO27 B24 => ?_
   replace hB := hB.only hO27 ne_b_b21
   replace B4 := B4.only hO27 ne_b1_b21
   replace hGB := hGB.only hO27 ne_bg_b21
   refine Zhb ⟨hB, B4, hGB, trivial⟩ ?_
   refine Zhn ?_
   refine Ztl ?_
   refine Za ?_
   intro a fr
   refine wpList_nil ?_
   refine fx_next ?_
   replace hL := (hL.new hN23).only hO27 (ne1P ap_FpL_b21)
   replace hA := (hA.new hN23).only hO27 (ne1P ap_FpA_b21)
   replace B11 := (B11.new hN23).only hO27 ne_b8_b21
   replace hF := (hF.trNew hN23).loc hO27 (.inr g_b21)
   exact ⟨b21, fr.sub ⟨rfl, rfl, rfl, rfl, rfl, trivial⟩, hF, hB, hL, hA, B4, B11, hGB, B24, (by first | exact ne_b_b21 | exact ne_b21_b.symm), ap_FpL_b21, ap_FpA_b21, (by first | exact ne_b1_b21 | exact ne_b21_b1.symm), (by first | exact ne_b8_b21 | exact ne_b21_b8.symm), (by first | exact ne_bg_b21 | exact ne_b21_bg.symm), g_b21⟩
  ·refine Zna (z := zv1) (cs := lnE.arr ln0) (by kernel_rfl) fun b28 w29 hN30 B31 hb32 => ?_
   have ne_b_b28 := nelt hB.lt hb32
   replace hL := (((hL.new hN10).only hO14 (ne1P ap_FpL_b8)).new hN16).new hN18
   have ap_FpL_b28 := hL.apart hb32
   replace hA := (((hA.new hN10).only hO14 (ne1P ap_FpA_b8)).new hN16).new hN18
   have ap_FpA_b28 := hA.apart hb32
   have ne_b1_b28 := nelt B4.lt hb32
   replace B11 := (B11.new hN16).new hN18
   have ne_b8_b28 := nelt B11.lt hb32
   have ne_bg_b28 := nelt hGB.lt hb32
   replace hF := (((hF.trNew hN10).loc hO14 (.inr g_b8)).trNew hN16).trNew hN18
   have g_b28 := hF.sz hb32
   replace hB := hB.new hN30
   replace B4 := B4.new hN30
   replace hGB := hGB.new hN30
   refine Zhb ⟨hB, B4, hGB, trivial⟩ ?_
   refine Zh1 6 ?_
   replace hL := hL.new hN30
   refine Zk (args := #[.pointer (some ⟨lb, 0, none⟩), .int .u32 m.line]) cf55 (find_c m.line (by omega) hL) ?_
   rintro v w33 ⟨rfl, hN34⟩
   replace hB := hB.new hN34
   replace B4 := B4.new hN34
   replace hGB := hGB.new hN34
   refine Zhb ⟨hB, B4, hGB, trivial⟩ ?_
   have hS9 := And.intro hB (And.intro B4 (And.intro hGB trivial))
   refine Zhm 7 hS9 ?_
   refine Zhx 8 hS9 ?_
   refine Zhx 9 hS9 ?_
   refine Zh1 11 ?_
   replace B31 := B31.new hN34
   refine ZsS sz39 (lnE.all _) B31 (lnE.size _) (lnE.size _) fun w35 hO36 B31 => ?_
   replace hB := hB.only hO36 ne_b_b28
   replace B4 := B4.only hO36 ne_b1_b28
   replace hGB := hGB.only hO36 ne_bg_b28
   refine Zhb ⟨hB, B4, hGB, trivial⟩ ?_
   refine Zhn ?_
   refine Ztl ?_
   refine Za ?_
   intro a fr
   refine wpList_nil ?_
   refine fx_next ?_
   replace hA := ((hA.new hN30).new hN34).only hO36 (ne1P ap_FpA_b28)
   replace B11 := ((B11.new hN30).new hN34).only hO36 ne_b8_b28
   replace hF := ((hF.trNew hN30).trNew hN34).loc hO36 (.inr g_b28)
   replace hL := (hL.new hN34).only hO36 (ne1P ap_FpL_b28)
   exact ⟨b28, fr.sub ⟨rfl, rfl, rfl, rfl, rfl, trivial⟩, hF, hB, hL, hA, B4, B11, hGB, B31, (by first | exact ne_b_b28 | exact ne_b28_b.symm), ap_FpL_b28, ap_FpA_b28, (by first | exact ne_b1_b28 | exact ne_b28_b1.symm), (by first | exact ne_b8_b28 | exact ne_b28_b8.symm), (by first | exact ne_bg_b28 | exact ne_b28_bg.symm), g_b28⟩
 clear fr a
 replace hL := ((hL.new hN10).only hO14 (ne1P ap_FpL_b8)).new hN16
 replace hA := ((hA.new hN10).only hO14 (ne1P ap_FpA_b8)).new hN16
 replace hF := ((hF.trNew hN10).loc hO14 (.inr g_b8)).trNew hN16
 replace B11 := B11.new hN16
 rintro a w17 ⟨b21, fr, hF, hB, hL, hA, B4, B11, hGB, B24, ne_b_b21, ap_FpL_b21, ap_FpA_b21, ne_b1_b21, ne_b8_b21, ne_bg_b21, g_b21⟩
 revert a
 refine Zsq ?_
 have hw' : writesB (((getN L m.line).getD ln0).state) = false := hw
 have hxn := ((getN L m.line).getD ln0).hn
 refine Zrg ?_
 refine Zf fo39_1 ?_
 refine Zd (v := .int .i64 (((getN L m.line).getD ln0).state)) pl36 (B24.cell 1 rfl) ?_
 refine Zk cf44 (writes_c (((getN L m.line).getD ln0).state) _) ?_
 rintro v _ ⟨rfl, hw9⟩
 obtain rfl := hw9.symm
 intro a fr
 rw [hw'] at fr
 revert a
 intro a fr
 refine fx_callp rfl (x_call (vs := [.bool false, .int .i64 220]) rfl rfl ⟨(fr.ev rfl), rfl, trivial⟩ Try.func78 nm78 rfl) (must_no 220 _) ?_
 rintro _ _ ⟨rfl, rfl⟩
 refine fx_pt ?_
 refine fx_pend fr ?_
 exact ⟨_, rfl, rfl, hF⟩
theorem back_g {w : World} {Fp : Nat → Prop} {b : Nat} {id : Int} {n : Nat} {ways : Int} {L : List Ln} {ask : Option (Int × Bool)} {gx : Ln} (H : CacheAt w Fp b ⟨id, n, ways, L, ask, (some gx)⟩) (m : Msg) (hg : gx.num = m.line) : Calls Try.prog 51 #[.pointer (some ⟨b, 0, none⟩), .agg (msgE.arr m)] w (Ret fun v w' => ∃ A' cap', v = .slice A' ([mkM 11 id 4 m.line gx.bs m.hn]).length cap' ∧ Own msgE w' A' cap' ([mkM 11 id 4 m.line gx.bs m.hn]) ∧ (∀ g, inA A' g → w.heap.size ≤ g) ∧ New w w') := by
 obtain ⟨lb, FpL, pa, pg, FpA, FpG, hB, hL, hA, hG, hP⟩ := H
 dsimp only at hB hL hA hG
 obtain ⟨hn1, hn2, hw1, hw2⟩ := hL.bd
 have hmn := m.hn
 have gA_FpG := fun g (hg : FpG g) => (Or.inl trivial : True ∨ w.heap.size ≤ g)
 have hF := Only.refl (fun _ => False) w
 refine Zen 75 Try.func51 ?_
 refine Zsr ?_
 refine Znb (cs := msgE.arr m) fun b1 w2 hN3 B4 hb5 => ?_
 refine Zan ?_
 refine Zsm ?_
 refine Zf fo35_3 ?_
 refine Zd (v := .int .u32 m.line) pl32 (B4.cell 3 rfl) ?_
 replace hB := hB.new hN3
 refine Zk (args := #[.pointer (some ⟨b, 0, none⟩), .int .i64 11, .int .u32 m.line]) cf47 (msg_c hB 11 m.line (by omega)) ?_
 rintro v w6 ⟨rfl, hN7⟩
 refine Zna (z := zv3) (cs := msgE.arr msg0) (by kernel_rfl) fun b8 w9 hN10 B11 hb12 => ?_
 replace hB := hB.new hN7
 have ne_b_b8 := nelt hB.lt hb12
 replace hG := (hG.new hN3).new hN7
 have ap_FpG_b8 := hG.apart hb12
 replace B4 := B4.new hN7
 have ne_b1_b8 := nelt B4.lt hb12
 replace hF := (hF.trNew hN3).trNew hN7
 have g_b8 := hF.sz hb12
 refine ZsS sz35 (msgE.all _) B11 (msgE.size _) (msgE.size _) fun w13 hO14 B11 => ?_
 refine Znq ?_
 refine Zsq ?_
 replace hG := (hG.new hN10).only hO14 (ne1P ap_FpG_b8)
 obtain ⟨bg, rfl, hGB, hGF⟩ := hG
 have gi_bg := gA_FpG bg ((hGF bg).2 rfl)
 refine Zhd (n := 17) (fun w => Blk w b 83 #[.int .i64 id, .pointer (some ⟨lb, 0, none⟩), pa, .pointer (some ⟨bg, 0, none⟩)] ∧ Blk w b1 35 (msgE.arr m) ∧ Blk w bg 39 (lnE.arr gx) ∧ True) ?_
 intro w15 hN16
 replace hB := ((hB.new hN10).only hO14 ne_b_b8).new hN16
 replace B4 := ((B4.new hN10).only hO14 ne_b1_b8).new hN16
 replace hGB := hGB.new hN16
 have hS9 := And.intro hB (And.intro B4 (And.intro hGB trivial))
 refine Zhm 0 hS9 ?_
 refine Zhc 1 hS9 ?_
 refine Zhf 2 fo83_3 hS9 ?_
 refine Zhl 3 pl81 hS9 (fun _ ⟨hB, _⟩ => (hB.cell 3 rfl)) ?_
 refine Zht 4 rfl (.bool true) hS9 (fun _ fr _ _ => x_pneq Try.underlying81 rfl (fr.ev rfl) rfl rfl) ?_
 refine Zhm 5 hS9 ?_
 refine Zhm 6 hS9 ?_
 refine Zhc 7 hS9 ?_
 refine Zhf 8 fo83_3 hS9 ?_
 refine Zhl 9 pl81 hS9 (fun _ ⟨hB, _⟩ => (hB.cell 3 rfl)) ?_
 refine Zhc 10 hS9 ?_
 refine Zhf 11 fo39_0 hS9 ?_
 refine Zhl (v := .int .u32 gx.num) 12 pl32 hS9 (fun _ ⟨_, _, hGB, _⟩ => (hGB.cell 0 rfl)) ?_
 refine Zhf 13 fo35_3 hS9 ?_
 refine Zhl (v := .int .u32 m.line) 14 pl32 hS9 (fun _ ⟨_, B4, _⟩ => (B4.cell 3 rfl)) ?_
 refine Zht 15 rfl (.bool true) hS9 (fun _ fr _ _ => x_eql rfl (fr.ev rfl) (fr.ev rfl) (decide_eq_true hg)) ?_
 refine Zht 16 rfl (.bool true) hS9 (fun _ fr _ _ => x_pick_t rfl (fr.ev rfl) (fr.ev rfl)) ?_
 refine Zhn ?_
 refine Znx ?_
 refine Zct ?_
 refine Zsm ?_
 refine Zn ?_
 refine Zf fo83_3 ?_
 refine Zd pl81 (hB.cell 3 rfl) ?_
 refine Zn ?_
 refine Zf fo39_2 ?_
 refine ZE (p := gx.bs) bsE ag22 (hGB.part (ln_bs _)) ?_
 refine Zf fo35_4 ?_
 intro a fr
 replace B11 := B11.new hN16
 refine fx_storePart (E := msgE) (E2 := bsE) (q := 4) (m := (mkM 11 id 4 m.line)) (m' := { (mkM 11 id 4 m.line) with bs := gx.bs }) (z := gx.bs) sz22 rfl rfl rfl (fr.ev rfl) (fr.ev rfl) B11 (by decide) (msg_setbs _ _) fun w17 hO18 hBq => ?_
 revert a
 replace B11 := hBq
 clear hBq
 refine Znn ?_
 refine Zsr ?_
 refine ZE msgE ag35 (B11.rangeE msgE) ?_
 intro a fr
 refine fx_build1 (E := msgE) (p := { (mkM 11 id 4 m.line) with bs := gx.bs }) elMsg (by decide) fr rfl rfl (by decide) rfl (fr.ev rfl) ?_
 clear fr a
 intro A19 w20 hN21 O22 hA23
 replace hF := (((hF.trNew hN10).loc hO14 (.inr g_b8)).trNew hN16).loc hO18 (.inr g_b8)
 have gN_A19 := fun g (hg : inA A19 g) => Nat.le_trans hF.size (hA23 g hg)
 refine Zar ?_
 refine Zr1 ?_
 refine Zre rfl [_] ⟨rfl, trivial⟩ ?_
 replace hF := hF.trNew hN21
 exact ⟨_, rfl, A19, 1, rfl, O22, gN_A19, hF⟩
end Go.Proofs.Ytflnlmibkbojcaa
namespace Go.Proofs.Ytflnlmibkbojcaa
open Go.RowKit
theorem caught_idle (be : Nat) (w : World) : CallsD Try.prog 49 #[.pointer (some ⟨be, 0, none⟩)] (.returning) w (fun e u' w' => e = .returned (.tuple #[]) ∧ u' = .returning ∧ w' = w) := by
 refine fx_enterS (args := #[.pointer (some ⟨be, 0, none⟩)]) Try.func49 rfl (N := (15, [])) (T := [(0, .pointer (some ⟨be, 0, none⟩))]) rfl (show 1 ≤ 15 by decide) ⟨rfl, trivial⟩ rfl rfl (by decide) (fun _ _ => rfl) (u1 := .returning) (rv := .nilIface) (.inl ⟨rfl, rfl, rfl⟩) fun c₀ cs a fr => ?_
 refine wp_block ?_
 refine wp_seq ?_
 refine wp_region_lit ?_
 refine fx_val (v := .bool true) fr rfl rfl (by first | decide | simp) (x_ieqn Try.underlying20 rfl (fr.ev rfl) rfl) ?_
 clear fr a; intro a fr
 refine wpList_nil ?_
 refine fx_next ?_
 refine fx_cond_t fr rfl ?_
 refine wp_region_lit ?_
 refine fx_val (v := .nilIface) fr rfl rfl (by first | decide | simp) (x_assign rfl (fr.ev rfl)) ?_
 clear fr a; intro a fr
 refine wpList_nil ?_
 refine fx_blk ?_
 refine fx_retS fr [] [] rfl trivial rfl ?_
 exact ⟨rfl, rfl, rfl⟩
theorem caught_stop {w : World} {be : Nat} {x0 : Int} (hE : Blk w be 26 #[.int .i64 x0]) (why : Int) : CallsD Try.prog 49 #[.pointer (some ⟨be, 0, none⟩)] (.panicking [{ v := .iface 161 (.agg #[.int .i64 why]), recovered := false }]) w (fun e u' w' => e = .returned (.tuple #[]) ∧ u' = .panicking [{ v := .iface 161 (.agg #[.int .i64 why]), recovered := true }] ∧ Blk w' be 26 #[.int .i64 why] ∧ Only (fun k => k = be) w w') := by
 have hF := Only.refl (fun k => k = be) w
 refine fx_enterS (args := #[.pointer (some ⟨be, 0, none⟩)]) Try.func49 rfl (N := (15, [])) (T := [(0, .pointer (some ⟨be, 0, none⟩))]) rfl (show 1 ≤ 15 by decide) ⟨rfl, trivial⟩ rfl rfl (by decide) (fun _ _ => rfl) (u1 := .panicking [{ v := .iface 161 (.agg #[.int .i64 why]), recovered := true }]) (rv := .iface 161 (.agg #[.int .i64 why])) (.inr ⟨rfl, rfl⟩) fun c₀ cs a fr => ?_
 refine wp_block ?_
 refine wp_seq ?_
 refine wp_region_lit ?_
 refine fx_val (v := .bool false) fr rfl rfl (by first | decide | simp) (x_ieql Try.underlying20 rfl (fr.ev rfl) rfl) ?_
 clear fr a; intro a fr
 refine wpList_nil ?_
 refine fx_next ?_
 refine fx_cond_f fr rfl ?_
 refine wp_seq ?_
 refine wp_region_lit ?_
 refine fx_val (v := .tuple #[.agg (#[.int .i64 why]), .bool true]) fr rfl rfl (by first | decide | simp) (x_typeAssert rfl (fr.ev rfl) Try.underlying161 rfl) ?_
 clear fr a; intro a fr
 refine fx_val (v := .bool true) fr rfl rfl (by first | decide | simp) (x_extract rfl (fr.ev rfl) rfl) ?_
 clear fr a; intro a fr
 refine fx_val (v := .agg (#[.int .i64 why])) fr rfl rfl (by first | decide | simp) (x_extract rfl (fr.ev rfl) rfl) ?_
 clear fr a; intro a fr
 refine wpList_nil ?_
 refine fx_next ?_
 refine fx_cond_t fr rfl ?_
 refine wp_seq ?_
 refine wp_region_lit ?_
 refine fx_new fr rfl rfl (by first | decide | simp) (x_alloc (z := .agg (#[.int .i64 0])) (cs := #[.int .i64 0]) rfl (by kernel_rfl) rfl) ?_
 clear fr a
 intro b1 w2 hN3 B4 hb5 a fr
 have ne_be_b1 : NE be b1 := NE.mk (Nat.lt_of_lt_of_le hE.lt hb5)
 have g_b1 := Nat.le_trans hF.size hb5
 replace hE := hE.new hN3
 replace hF := hF.trNew hN3
 refine fx_storeS sz161 rfl rfl rfl (fr.ev rfl) (fr.ev rfl) (by simp [Value.oneCell']) B4 rfl rfl fun w6 hO7 hBq => ?_
 replace hE := hE.only hO7 (by first | exact ne_be_b1 | exact ne_b1_be.symm | (show ¬ be = b1; omega))
 replace hF := hF.loc hO7 (.inr g_b1)
 replace B4 := hBq
 clear hBq
 refine wpList_nil ?_
 refine fx_next ?_
 refine wp_region_lit ?_
 refine fx_val (v := .pointer (some ⟨be, 0, none⟩)) fr rfl rfl (by first | decide | simp) (x_move rfl (fr.ev rfl)) ?_
 clear fr a; intro a fr
 refine fx_val (v := .pointer (some ⟨b1, 0, none⟩)) fr rfl rfl (by first | decide | simp) (x_fieldAddr fo161_0 rfl (fr.ev rfl) rfl) ?_
 clear fr a; intro a fr
 refine fx_val (v := .int .i64 why) fr rfl rfl (by first | decide | simp) (x_load1 pl26 rfl (fr.ev rfl) (B4.cell 0 rfl)) ?_
 clear fr a; intro a fr
 refine fx_val (v := .pointer (some ⟨be, 0, none⟩)) fr rfl rfl (by first | decide | simp) (x_nilCheck rfl (fr.ev rfl)) ?_
 clear fr a; intro a fr
 refine fx_store1 sz26 rfl rfl rfl (fr.ev rfl) (fr.ev rfl) rfl hE (show 0 < 1 by decide) (cs' := #[.int .i64 why]) rfl fun w8 hO9 hBq => ?_
 replace B4 := B4.only hO9 (by first | exact ne_b1_be | exact ne_be_b1.symm | (show ¬ b1 = be; omega))
 replace hF := hF.loc hO9 (.inl rfl)
 replace hE := hBq
 clear hBq
 refine wpList_nil ?_
 refine fx_blk ?_
 refine fx_retS fr [] [] rfl trivial rfl ?_
 exact ⟨rfl, rfl, hE, hF⟩
def takeEs (b : Nat) : Array MapEntry := #[⟨.int .i64 8, .func (.func 50) #[.pointer (some ⟨b, 0, none⟩)] #[], 0⟩, ⟨.int .i64 9, .func (.func 50) #[.pointer (some ⟨b, 0, none⟩)] #[], 1⟩, ⟨.int .i64 10, .func (.func 50) #[.pointer (some ⟨b, 0, none⟩)] #[], 2⟩, ⟨.int .i64 4, .func (.func 51) #[.pointer (some ⟨b, 0, none⟩)] #[], 3⟩, ⟨.int .i64 5, .func (.func 51) #[.pointer (some ⟨b, 0, none⟩)] #[], 4⟩, ⟨.int .i64 6, .func (.func 52) #[.pointer (some ⟨b, 0, none⟩)] #[], 5⟩, ⟨.int .i64 7, .func (.func 53) #[.pointer (some ⟨b, 0, none⟩)] #[], 6⟩]
theorem take_a1 {w : World} {Fp : Nat → Prop} {b : Nat} {id : Int} {n : Nat} {ways : Int} {L : List Ln} {ask : Option (Int × Bool)} {giv : Option Ln} (H : CacheAt w Fp b ⟨id, n, ways, L, ask, giv⟩) (m : Msg) (hx : chk m ≠ 0) : Calls Try.prog 14 #[.pointer (some ⟨b, 0, none⟩), .agg (msgE.arr m)] w (Ret fun v w' => v = .tuple #[.slice none 0 0, .int .i64 2] ∧ CacheAt w' Fp b ⟨id, n, ways, L, ask, giv⟩ ∧ New w w') := by
 have H0 := H
 obtain ⟨lb, FpL, pa, pg, FpA, FpG, hB, hL, hA, hG, hP⟩ := H0
 dsimp only at hB
 clear hL hA hG
 have hF := Only.refl (fun _ => False) w
 refine ZeD 43 Try.func14 ?_
 refine Zsr ?_
 refine Znb (cs := msgE.arr m) fun b1 w2 hN3 B4 hb5 => ?_
 refine Za ?_
 refine Zna (z := .int .i64 0) (cs := #[.int .i64 0]) (by kernel_rfl) fun b6 w7 hN8 B9 hb10 => ?_
 replace H := H.new hN3
 have ap_Fp_b6 := H.apart hb10
 replace hF := hF.trNew hN3
 have g_b6 := hF.sz hb10
 refine Znq ?_
 refine Zbl ?_
 refine Zsm ?_
 replace hB := (hB.new hN3).new hN8
 refine Zk cf43 (cnone_c hB) ?_
 rintro v w9 ⟨rfl, hw9⟩
 obtain rfl := hw9.symm
 refine Zan ?_
 refine Zcf ?_
 refine Zsq ?_
 refine Zhd (n := 13) (fun w => Blk w b1 35 (msgE.arr m) ∧ True) ?_
 intro w13 hN14
 replace B4 := (B4.new hN8).new hN14
 have hS9 := And.intro B4 trivial
 refine ZhE 0 msgE ag35 hS9 (fun _ ⟨B4, _⟩ => (B4.rangeE msgE)) ?_
 refine Zh1 1 ?_
 refine Zk cf48 (chk_c m _) ?_
 rintro v w15 ⟨rfl, hN16⟩
 replace B4 := B4.new hN16
 refine Zhb ⟨B4, trivial⟩ ?_
 have hS9 := And.intro B4 trivial
 refine Zht 2 rfl (.bool true) hS9 (fun _ fr _ _ => x_neq rfl (fr.ev rfl) rfl (decide_eq_true hx)) ?_
 refine Zhm 3 hS9 ?_
 refine Zhs 4 hS9 ?_
 refine Zhs 5 hS9 ?_
 refine Zhs 6 hS9 ?_
 refine Zhs 7 hS9 ?_
 refine Zhs 8 hS9 ?_
 refine Zhs 9 hS9 ?_
 refine Zhs 10 hS9 ?_
 refine Zht 11 rfl (.bool true) hS9 (fun _ fr _ _ => x_pick_t rfl (fr.ev rfl) rfl) ?_
 refine Zha 12 hS9 ?_
 refine Zhn ?_
 refine Znx ?_
 refine Zct ?_
 refine Zsr ?_
 refine Za ?_
 replace B9 := (B9.new hN14).new hN16
 refine Zs1 (cs' := #[.int .i64 2]) sz26 B9 (show 0 < 1 by decide) rfl fun w17 hO18 B9 => ?_
 refine Znn ?_
 refine Zrt ?_
 refine Zr21 ?_
 intro a fr
 refine fx_retD0 fr [.tmp 4, .cell 5 26] [.slice none 0 0, .int .i64 2] rfl ⟨rfl, ⟨_, rfl, x_loadV1 pl26 (B9.cell 0 rfl)⟩, trivial⟩ rfl ?_
 replace H := (((H.new hN8).new hN14).new hN16).only hO18 (ne1P ap_Fp_b6)
 replace hF := (((hF.trNew hN8).trNew hN14).trNew hN16).loc hO18 (.inr g_b6)
 exact ⟨_, rfl, rfl, H, hF⟩
theorem take_a2 {w : World} {Fp : Nat → Prop} {b : Nat} {id : Int} {n : Nat} {ways : Int} {L : List Ln} {ask : Option (Int × Bool)} {giv : Option Ln} (H : CacheAt w Fp b ⟨id, n, ways, L, ask, giv⟩) (m : Msg) (hc : ¬ chk m ≠ 0) (hx : m.dst ≠ id) : Calls Try.prog 14 #[.pointer (some ⟨b, 0, none⟩), .agg (msgE.arr m)] w (Ret fun v w' => v = .tuple #[.slice none 0 0, .int .i64 2] ∧ CacheAt w' Fp b ⟨id, n, ways, L, ask, giv⟩ ∧ New w w') := by
 have H0 := H
 obtain ⟨lb, FpL, pa, pg, FpA, FpG, hB, hL, hA, hG, hP⟩ := H0
 dsimp only at hB
 clear hL hA hG
 have hF := Only.refl (fun _ => False) w
 refine ZeD 43 Try.func14 ?_
 refine Zsr ?_
 refine Znb (cs := msgE.arr m) fun b1 w2 hN3 B4 hb5 => ?_
 refine Za ?_
 refine Zna (z := .int .i64 0) (cs := #[.int .i64 0]) (by kernel_rfl) fun b6 w7 hN8 B9 hb10 => ?_
 replace H := H.new hN3
 have ap_Fp_b6 := H.apart hb10
 replace hF := hF.trNew hN3
 have g_b6 := hF.sz hb10
 refine Znq ?_
 refine Zbl ?_
 refine Zsm ?_
 replace hB := (hB.new hN3).new hN8
 refine Zk cf43 (cnone_c hB) ?_
 rintro v w9 ⟨rfl, hw9⟩
 obtain rfl := hw9.symm
 refine Zan ?_
 refine Zcf ?_
 refine Zsq ?_
 refine Zhd (n := 13) (fun w => Blk w b 83 #[.int .i64 id, .pointer (some ⟨lb, 0, none⟩), pa, pg] ∧ Blk w b1 35 (msgE.arr m) ∧ True) ?_
 intro w13 hN14
 replace B4 := (B4.new hN8).new hN14
 replace hB := hB.new hN14
 have hS9 := And.intro hB (And.intro B4 trivial)
 refine ZhE 0 msgE ag35 hS9 (fun _ ⟨_, B4, _⟩ => (B4.rangeE msgE)) ?_
 refine Zh1 1 ?_
 refine Zk cf48 (chk_c m _) ?_
 rintro v w15 ⟨rfl, hN16⟩
 replace hB := hB.new hN16
 replace B4 := B4.new hN16
 refine Zhb ⟨hB, B4, trivial⟩ ?_
 have hS9 := And.intro hB (And.intro B4 trivial)
 refine Zht 2 rfl (.bool false) hS9 (fun _ fr _ _ => x_neq rfl (fr.ev rfl) rfl (decide_eq_false hc)) ?_
 refine Zhm 3 hS9 ?_
 refine Zhf 4 fo35_2 hS9 ?_
 refine Zhl (v := .int .i64 m.dst) 5 pl3 hS9 (fun _ ⟨_, B4, _⟩ => (B4.cell 2 rfl)) ?_
 refine Zhm 6 hS9 ?_
 refine Zhc 7 hS9 ?_
 refine Zhf 8 fo83_0 hS9 ?_
 refine Zhl (v := .int .i64 id) 9 pl3 hS9 (fun _ ⟨hB, _⟩ => (hB.cell 0 rfl)) ?_
 refine Zht 10 rfl (.bool true) hS9 (fun _ fr _ _ => x_neq rfl (fr.ev rfl) (fr.ev rfl) (decide_eq_true hx)) ?_
 refine Zht 11 rfl (.bool true) hS9 (fun _ fr _ _ => x_pick_f rfl (fr.ev rfl) (fr.ev rfl)) ?_
 refine Zha 12 hS9 ?_
 refine Zhn ?_
 refine Znx ?_
 refine Zct ?_
 refine Zsr ?_
 refine Za ?_
 replace B9 := (B9.new hN14).new hN16
 refine Zs1 (cs' := #[.int .i64 2]) sz26 B9 (show 0 < 1 by decide) rfl fun w17 hO18 B9 => ?_
 refine Znn ?_
 refine Zrt ?_
 refine Zr21 ?_
 intro a fr
 refine fx_retD0 fr [.tmp 4, .cell 5 26] [.slice none 0 0, .int .i64 2] rfl ⟨rfl, ⟨_, rfl, x_loadV1 pl26 (B9.cell 0 rfl)⟩, trivial⟩ rfl ?_
 replace H := (((H.new hN8).new hN14).new hN16).only hO18 (ne1P ap_Fp_b6)
 replace hF := (((hF.trNew hN8).trNew hN14).trNew hN16).loc hO18 (.inr g_b6)
 exact ⟨_, rfl, rfl, H, hF⟩
theorem take_ret {w : World} {Fp : Nat → Prop} {b : Nat} {id : Int} {n : Nat} {ways : Int} {L : List Ln} {ask : Option (Int × Bool)} {giv : Option Ln} (H : CacheAt w Fp b ⟨id, n, ways, L, ask, giv⟩) (m : Msg) (hck : chk m = 0) (hdn : m.dst = id) {f : Nat} {fn : Func} (hfn : Try.prog.funcs[f]? = some fn) (hnm : (fn.name == "runtime.NumGoroutine") = false) (hbd : fn.body.isNone = false) (hes : (Instr.findNow (.int .i64) (.int .i64 m.kind) (takeEs b).toList 0).map (fun q => (match q with | some (_, u) => u | none => .nilFunc, q.isSome)) = some (.func (.func f) #[.pointer (some ⟨b, 0, none⟩)] #[], true)) {l : List Msg} {d2 : CD} (hc : ∀ w1, Only Fp w w1 → CacheAt w1 Fp b ⟨id, n, ways, L, ask, giv⟩ → Calls Try.prog f #[.pointer (some ⟨b, 0, none⟩), .agg (msgE.arr m)] w1 (Ret fun v w' => ∃ A' cap', v = .slice A' l.length cap' ∧ Own msgE w' A' cap' l ∧ (∀ g, inA A' g → w1.heap.size ≤ g) ∧ ∃ Fp', CacheAt w' Fp' b d2 ∧ Only Fp w1 w' ∧ ∀ g, Fp' g → Fp g ∨ w1.heap.size ≤ g))  : Calls Try.prog 14 #[.pointer (some ⟨b, 0, none⟩), .agg (msgE.arr m)] w (Ret fun v w' => ∃ A' cap', v = .tuple #[.slice A' l.length cap', .int .i64 0] ∧ Own msgE w' A' cap' l ∧ (∀ g, inA A' g → w.heap.size ≤ g) ∧ ∃ Fp', CacheAt w' Fp' b d2 ∧ Only Fp w w' ∧ ∀ g, Fp' g → Fp g ∨ w.heap.size ≤ g) := by
 have H0 := H
 obtain ⟨lb, FpL, pa, pg, FpA, FpG, hB, hL, hA, hG, hP⟩ := H0
 dsimp only at hB
 clear hL hA hG
 have gA_Fp : ∀ g, Fp g → Fp g ∨ w.heap.size ≤ g := fun g hg => .inl hg
 have hF := Only.refl (Fp) w
 refine ZeD 43 Try.func14 ?_
 refine Zsr ?_
 refine Znb (cs := msgE.arr m) fun b1 w2 hN3 B4 hb5 => ?_
 refine Za ?_
 refine Zna (z := .int .i64 0) (cs := #[.int .i64 0]) (by kernel_rfl) fun b6 w7 hN8 B9 hb10 => ?_
 replace H := H.new hN3
 have ap_Fp_b6 := H.apart hb10
 replace hF := hF.trNew hN3
 have g_b6 := hF.sz hb10
 refine Znq ?_
 refine Zbl ?_
 refine Zsq ?_
 have hck2 : ¬ chk m ≠ 0 := fun h => h hck
 have hdn2 : ¬ m.dst ≠ id := fun h => h hdn
 refine Zgm ?_
 replace hB := (hB.new hN3).new hN8
 refine Zk cf43 (cnone_c hB) ?_
 rintro v w9 ⟨rfl, hw9⟩
 obtain rfl := hw9.symm
 refine Zan ?_
 refine Zcf ?_
 refine Zsq ?_
 refine Zhd (n := 13) (fun w => Blk w b 83 #[.int .i64 id, .pointer (some ⟨lb, 0, none⟩), pa, pg] ∧ Blk w b1 35 (msgE.arr m) ∧ True) ?_
 intro w13 hN14
 replace B4 := (B4.new hN8).new hN14
 replace hB := hB.new hN14
 have hS9 := And.intro hB (And.intro B4 trivial)
 refine ZhE 0 msgE ag35 hS9 (fun _ ⟨_, B4, _⟩ => (B4.rangeE msgE)) ?_
 refine Zh1 1 ?_
 refine Zk cf48 (chk_c m _) ?_
 rintro v w15 ⟨rfl, hN16⟩
 replace hB := hB.new hN16
 replace B4 := B4.new hN16
 refine Zhb ⟨hB, B4, trivial⟩ ?_
 have hS9 := And.intro hB (And.intro B4 trivial)
 refine Zht 2 rfl (.bool false) hS9 (fun _ fr _ _ => x_neq rfl (fr.ev rfl) rfl (decide_eq_false hck2)) ?_
 refine Zhm 3 hS9 ?_
 refine Zhf 4 fo35_2 hS9 ?_
 refine Zhl (v := .int .i64 m.dst) 5 pl3 hS9 (fun _ ⟨_, B4, _⟩ => (B4.cell 2 rfl)) ?_
 refine Zhm 6 hS9 ?_
 refine Zhc 7 hS9 ?_
 refine Zhf 8 fo83_0 hS9 ?_
 refine Zhl (v := .int .i64 id) 9 pl3 hS9 (fun _ ⟨hB, _⟩ => (hB.cell 0 rfl)) ?_
 refine Zht 10 rfl (.bool false) hS9 (fun _ fr _ _ => x_neq rfl (fr.ev rfl) (fr.ev rfl) (decide_eq_false hdn2)) ?_
 refine Zht 11 rfl (.bool false) hS9 (fun _ fr _ _ => x_pick_f rfl (fr.ev rfl) (fr.ev rfl)) ?_
 refine Zha 12 hS9 ?_
 refine Zhn ?_
 refine Znx ?_
 refine Zcf ?_
 refine Zsk ?_
 refine Zbn ?_
 refine Zsr ?_
 intro a fr
 refine fx_defer fr rfl rfl (x_defer (vs := [.pointer (some ⟨b6, 0, none⟩)]) rfl rfl ⟨(fr.ev rfl), trivial⟩) ?_
 clear fr a
 refine Znn ?_
 refine Zsr ?_
 intro a fr
 refine fx_makeMap fr rfl rfl rfl (by first | decide | simp) ?_
 clear fr a
 intro r17 w18 hN19 M20 hb21
 replace H := ((H.new hN8).new hN14).new hN16
 have ap_Fp_r17 := H.apart hb21
 have ne_b1_r17 := nelt B4.lt hb21
 replace B9 := (B9.new hN14).new hN16
 have ne_b6_r17 := nelt B9.lt hb21
 replace hF := ((hF.trNew hN8).trNew hN14).trNew hN16
 have g_r17 := hF.sz hb21
 refine Zm ?_
 refine Zv _ (fun _ fr => x_makeBound rfl (fr.ev rfl)) ?_
 intro a fr
 refine fx_insert (es' := #[⟨.int .i64 8, .func (.func 50) #[.pointer (some ⟨b, 0, none⟩)] #[], 0⟩]) Try.underlying115 Try.underlying33 rfl rfl rfl (fr.ev rfl) rfl (fr.ev rfl) M20 rfl rfl fun w22 hO23 hBq => ?_
 revert a
 replace M20 := hBq
 clear hBq
 refine Zm ?_
 refine Zv _ (fun _ fr => x_makeBound rfl (fr.ev rfl)) ?_
 intro a fr
 refine fx_insert (es' := #[⟨.int .i64 8, .func (.func 50) #[.pointer (some ⟨b, 0, none⟩)] #[], 0⟩, ⟨.int .i64 9, .func (.func 50) #[.pointer (some ⟨b, 0, none⟩)] #[], 1⟩]) Try.underlying115 Try.underlying33 rfl rfl rfl (fr.ev rfl) rfl (fr.ev rfl) M20 rfl rfl fun w24 hO25 hBq => ?_
 revert a
 replace M20 := hBq
 clear hBq
 refine Zm ?_
 refine Zv _ (fun _ fr => x_makeBound rfl (fr.ev rfl)) ?_
 intro a fr
 refine fx_insert (es' := #[⟨.int .i64 8, .func (.func 50) #[.pointer (some ⟨b, 0, none⟩)] #[], 0⟩, ⟨.int .i64 9, .func (.func 50) #[.pointer (some ⟨b, 0, none⟩)] #[], 1⟩, ⟨.int .i64 10, .func (.func 50) #[.pointer (some ⟨b, 0, none⟩)] #[], 2⟩]) Try.underlying115 Try.underlying33 rfl rfl rfl (fr.ev rfl) rfl (fr.ev rfl) M20 rfl rfl fun w26 hO27 hBq => ?_
 revert a
 replace M20 := hBq
 clear hBq
 refine Zm ?_
 refine Zv _ (fun _ fr => x_makeBound rfl (fr.ev rfl)) ?_
 intro a fr
 refine fx_insert (es' := #[⟨.int .i64 8, .func (.func 50) #[.pointer (some ⟨b, 0, none⟩)] #[], 0⟩, ⟨.int .i64 9, .func (.func 50) #[.pointer (some ⟨b, 0, none⟩)] #[], 1⟩, ⟨.int .i64 10, .func (.func 50) #[.pointer (some ⟨b, 0, none⟩)] #[], 2⟩, ⟨.int .i64 4, .func (.func 51) #[.pointer (some ⟨b, 0, none⟩)] #[], 3⟩]) Try.underlying115 Try.underlying33 rfl rfl rfl (fr.ev rfl) rfl (fr.ev rfl) M20 rfl rfl fun w28 hO29 hBq => ?_
 revert a
 replace M20 := hBq
 clear hBq
 refine Zm ?_
 refine Zv _ (fun _ fr => x_makeBound rfl (fr.ev rfl)) ?_
 intro a fr
 refine fx_insert (es' := #[⟨.int .i64 8, .func (.func 50) #[.pointer (some ⟨b, 0, none⟩)] #[], 0⟩, ⟨.int .i64 9, .func (.func 50) #[.pointer (some ⟨b, 0, none⟩)] #[], 1⟩, ⟨.int .i64 10, .func (.func 50) #[.pointer (some ⟨b, 0, none⟩)] #[], 2⟩, ⟨.int .i64 4, .func (.func 51) #[.pointer (some ⟨b, 0, none⟩)] #[], 3⟩, ⟨.int .i64 5, .func (.func 51) #[.pointer (some ⟨b, 0, none⟩)] #[], 4⟩]) Try.underlying115 Try.underlying33 rfl rfl rfl (fr.ev rfl) rfl (fr.ev rfl) M20 rfl rfl fun w30 hO31 hBq => ?_
 revert a
 replace M20 := hBq
 clear hBq
 refine Zm ?_
 refine Zv _ (fun _ fr => x_makeBound rfl (fr.ev rfl)) ?_
 intro a fr
 refine fx_insert (es' := #[⟨.int .i64 8, .func (.func 50) #[.pointer (some ⟨b, 0, none⟩)] #[], 0⟩, ⟨.int .i64 9, .func (.func 50) #[.pointer (some ⟨b, 0, none⟩)] #[], 1⟩, ⟨.int .i64 10, .func (.func 50) #[.pointer (some ⟨b, 0, none⟩)] #[], 2⟩, ⟨.int .i64 4, .func (.func 51) #[.pointer (some ⟨b, 0, none⟩)] #[], 3⟩, ⟨.int .i64 5, .func (.func 51) #[.pointer (some ⟨b, 0, none⟩)] #[], 4⟩, ⟨.int .i64 6, .func (.func 52) #[.pointer (some ⟨b, 0, none⟩)] #[], 5⟩]) Try.underlying115 Try.underlying33 rfl rfl rfl (fr.ev rfl) rfl (fr.ev rfl) M20 rfl rfl fun w32 hO33 hBq => ?_
 revert a
 replace M20 := hBq
 clear hBq
 refine Zm ?_
 refine Zv _ (fun _ fr => x_makeBound rfl (fr.ev rfl)) ?_
 intro a fr
 refine fx_insert (es' := #[⟨.int .i64 8, .func (.func 50) #[.pointer (some ⟨b, 0, none⟩)] #[], 0⟩, ⟨.int .i64 9, .func (.func 50) #[.pointer (some ⟨b, 0, none⟩)] #[], 1⟩, ⟨.int .i64 10, .func (.func 50) #[.pointer (some ⟨b, 0, none⟩)] #[], 2⟩, ⟨.int .i64 4, .func (.func 51) #[.pointer (some ⟨b, 0, none⟩)] #[], 3⟩, ⟨.int .i64 5, .func (.func 51) #[.pointer (some ⟨b, 0, none⟩)] #[], 4⟩, ⟨.int .i64 6, .func (.func 52) #[.pointer (some ⟨b, 0, none⟩)] #[], 5⟩, ⟨.int .i64 7, .func (.func 53) #[.pointer (some ⟨b, 0, none⟩)] #[], 6⟩]) Try.underlying115 Try.underlying33 rfl rfl rfl (fr.ev rfl) rfl (fr.ev rfl) M20 rfl rfl fun w34 hO35 hBq => ?_
 revert a
 replace M20 := hBq
 clear hBq
 refine Zm ?_
 refine Zf fo35_0 ?_
 replace B4 := (((((((B4.new hN19).only hO23 ne_b1_r17).only hO25 ne_b1_r17).only hO27 ne_b1_r17).only hO29 ne_b1_r17).only hO31 ne_b1_r17).only hO33 ne_b1_r17).only hO35 ne_b1_r17
 refine Zd (v := .int .i64 m.kind) pl33 (B4.cell 0 rfl) ?_
 refine Zv (.func (.func f) #[.pointer (some ⟨b, 0, none⟩)] #[]) (fun _ fr => x_lookup (k := .i64) (ok := false) (v := .func (.func f) #[.pointer (some ⟨b, 0, none⟩)] #[]) (b := true) Try.underlying115 Try.underlying33 rfl (fr.ev rfl) (fr.ev rfl) M20 (z := .nilFunc) (by kernel_rfl) hes) ?_
 refine ZE msgE ag35 (B4.rangeE msgE) ?_
 replace H := (((((((H.new hN19).only hO23 (ne1P ap_Fp_r17)).only hO25 (ne1P ap_Fp_r17)).only hO27 (ne1P ap_Fp_r17)).only hO29 (ne1P ap_Fp_r17)).only hO31 (ne1P ap_Fp_r17)).only hO33 (ne1P ap_Fp_r17)).only hO35 (ne1P ap_Fp_r17)
 replace hF := (((((((hF.trNew hN19).loc hO23 (.inr g_r17)).loc hO25 (.inr g_r17)).loc hO27 (.inr g_r17)).loc hO29 (.inr g_r17)).loc hO31 (.inr g_r17)).loc hO33 (.inr g_r17)).loc hO35 (.inr g_r17)
 refine Zkx (fun _ fr => x_callb (all := #[.pointer (some ⟨b, 0, none⟩), .agg (msgE.arr m)]) (vs := [.agg (msgE.arr m)]) rfl (fr.ev rfl) ⟨(fr.ev rfl), trivial⟩ rfl hfn hnm hbd) (hc _ hF H) ?_
 rintro v w43 ⟨A36, cap37, rfl, O38, hA39, Fp40, H41, hN44, mv42⟩
 clear H
 have gN_A36 := fun g (hg : inA A36 g) => Nat.le_trans hF.size (hA39 g hg)
 replace B9 := (((((((B9.new hN19).only hO23 ne_b6_r17).only hO25 ne_b6_r17).only hO27 ne_b6_r17).only hO29 ne_b6_r17).only hO31 ne_b6_r17).only hO33 ne_b6_r17).only hO35 ne_b6_r17
 have ap_Fp40_b6 : ¬ Fp40 b6 := moved_apartP mv42 ap_Fp_b6 B9.lt
 have ap_A36_b6 : Apart A36 b6 := new_apart hA39 B9.lt
 have gA_Fp40 := gA_movedP hF mv42 gA_Fp
 refine Za ?_
 replace B9 := B9.only hN44 ap_Fp_b6
 refine Zs1 (cs' := #[.int .i64 0]) sz26 B9 (show 0 < 1 by decide) rfl fun w45 hO46 B9 => ?_
 refine Znn ?_
 refine Zrt ?_
 intro a fr
 refine fx_retD1 fr rfl (caught_idle b6 _) [.tmp 4, .cell 5 26] [.slice A36 l.length cap37, .int .i64 0] rfl ⟨rfl, ⟨_, rfl, x_loadV1 pl26 (B9.cell 0 rfl)⟩, trivial⟩ rfl ?_
 replace hF := (hF.locP hN44 gA_Fp).loc hO46 (.inr g_b6)
 replace O38 := O38.only hO46 (Apart.ne1 ap_A36_b6)
 replace H41 := H41.only hO46 (ne1P ap_Fp40_b6)
 exact ⟨_, rfl, A36, cap37, rfl, O38, gN_A36, Fp40, H41, hF, gA_Fp40⟩
theorem take_pan {w : World} {Fp : Nat → Prop} {b : Nat} {id : Int} {n : Nat} {ways : Int} {L : List Ln} {ask : Option (Int × Bool)} {giv : Option Ln} (H : CacheAt w Fp b ⟨id, n, ways, L, ask, giv⟩) (m : Msg) (hck : chk m = 0) (hdn : m.dst = id) {f : Nat} {fn : Func} (hfn : Try.prog.funcs[f]? = some fn) (hnm : (fn.name == "runtime.NumGoroutine") = false) (hbd : fn.body.isNone = false) (hes : (Instr.findNow (.int .i64) (.int .i64 m.kind) (takeEs b).toList 0).map (fun q => (match q with | some (_, u) => u | none => .nilFunc, q.isSome)) = some (.func (.func f) #[.pointer (some ⟨b, 0, none⟩)] #[], true)) (hc : ∀ w1, New w w1 → CacheAt w1 Fp b ⟨id, n, ways, L, ask, giv⟩ → Calls Try.prog f #[.pointer (some ⟨b, 0, none⟩), .agg (msgE.arr m)] w1 (Pan fun c w' => c = stopE 220 ∧ New w1 w'))  : Calls Try.prog 14 #[.pointer (some ⟨b, 0, none⟩), .agg (msgE.arr m)] w (Ret fun v w' => v = .tuple #[.slice none 0 0, .int .i64 220] ∧ CacheAt w' Fp b ⟨id, n, ways, L, ask, giv⟩ ∧ New w w') := by
 have H0 := H
 obtain ⟨lb, FpL, pa, pg, FpA, FpG, hB, hL, hA, hG, hP⟩ := H0
 dsimp only at hB
 clear hL hA hG
 have hF := Only.refl (fun _ => False) w
 refine ZeD 43 Try.func14 ?_
 refine Zsr ?_
 refine Znb (cs := msgE.arr m) fun b1 w2 hN3 B4 hb5 => ?_
 refine Za ?_
 refine Zna (z := .int .i64 0) (cs := #[.int .i64 0]) (by kernel_rfl) fun b6 w7 hN8 B9 hb10 => ?_
 replace H := H.new hN3
 have ap_Fp_b6 := H.apart hb10
 replace hF := hF.trNew hN3
 have g_b6 := hF.sz hb10
 refine Znq ?_
 refine Zbl ?_
 refine Zsq ?_
 have hck2 : ¬ chk m ≠ 0 := fun h => h hck
 have hdn2 : ¬ m.dst ≠ id := fun h => h hdn
 refine Zgm ?_
 replace hB := (hB.new hN3).new hN8
 refine Zk cf43 (cnone_c hB) ?_
 rintro v w9 ⟨rfl, hw9⟩
 obtain rfl := hw9.symm
 refine Zan ?_
 refine Zcf ?_
 refine Zsq ?_
 refine Zhd (n := 13) (fun w => Blk w b 83 #[.int .i64 id, .pointer (some ⟨lb, 0, none⟩), pa, pg] ∧ Blk w b1 35 (msgE.arr m) ∧ True) ?_
 intro w13 hN14
 replace B4 := (B4.new hN8).new hN14
 replace hB := hB.new hN14
 have hS9 := And.intro hB (And.intro B4 trivial)
 refine ZhE 0 msgE ag35 hS9 (fun _ ⟨_, B4, _⟩ => (B4.rangeE msgE)) ?_
 refine Zh1 1 ?_
 refine Zk cf48 (chk_c m _) ?_
 rintro v w15 ⟨rfl, hN16⟩
 replace hB := hB.new hN16
 replace B4 := B4.new hN16
 refine Zhb ⟨hB, B4, trivial⟩ ?_
 have hS9 := And.intro hB (And.intro B4 trivial)
 refine Zht 2 rfl (.bool false) hS9 (fun _ fr _ _ => x_neq rfl (fr.ev rfl) rfl (decide_eq_false hck2)) ?_
 refine Zhm 3 hS9 ?_
 refine Zhf 4 fo35_2 hS9 ?_
 refine Zhl (v := .int .i64 m.dst) 5 pl3 hS9 (fun _ ⟨_, B4, _⟩ => (B4.cell 2 rfl)) ?_
 refine Zhm 6 hS9 ?_
 refine Zhc 7 hS9 ?_
 refine Zhf 8 fo83_0 hS9 ?_
 refine Zhl (v := .int .i64 id) 9 pl3 hS9 (fun _ ⟨hB, _⟩ => (hB.cell 0 rfl)) ?_
 refine Zht 10 rfl (.bool false) hS9 (fun _ fr _ _ => x_neq rfl (fr.ev rfl) (fr.ev rfl) (decide_eq_false hdn2)) ?_
 refine Zht 11 rfl (.bool false) hS9 (fun _ fr _ _ => x_pick_f rfl (fr.ev rfl) (fr.ev rfl)) ?_
 refine Zha 12 hS9 ?_
 refine Zhn ?_
 refine Znx ?_
 refine Zcf ?_
 refine Zsk ?_
 refine Zbn ?_
 refine Zsr ?_
 intro a fr
 refine fx_defer fr rfl rfl (x_defer (vs := [.pointer (some ⟨b6, 0, none⟩)]) rfl rfl ⟨(fr.ev rfl), trivial⟩) ?_
 clear fr a
 refine Znn ?_
 refine Zsr ?_
 intro a fr
 refine fx_makeMap fr rfl rfl rfl (by first | decide | simp) ?_
 clear fr a
 intro r17 w18 hN19 M20 hb21
 replace H := ((H.new hN8).new hN14).new hN16
 have ap_Fp_r17 := H.apart hb21
 have ne_b1_r17 := nelt B4.lt hb21
 replace B9 := (B9.new hN14).new hN16
 have ne_b6_r17 := nelt B9.lt hb21
 replace hF := ((hF.trNew hN8).trNew hN14).trNew hN16
 have g_r17 := hF.sz hb21
 refine Zm ?_
 refine Zv _ (fun _ fr => x_makeBound rfl (fr.ev rfl)) ?_
 intro a fr
 refine fx_insert (es' := #[⟨.int .i64 8, .func (.func 50) #[.pointer (some ⟨b, 0, none⟩)] #[], 0⟩]) Try.underlying115 Try.underlying33 rfl rfl rfl (fr.ev rfl) rfl (fr.ev rfl) M20 rfl rfl fun w22 hO23 hBq => ?_
 revert a
 replace M20 := hBq
 clear hBq
 refine Zm ?_
 refine Zv _ (fun _ fr => x_makeBound rfl (fr.ev rfl)) ?_
 intro a fr
 refine fx_insert (es' := #[⟨.int .i64 8, .func (.func 50) #[.pointer (some ⟨b, 0, none⟩)] #[], 0⟩, ⟨.int .i64 9, .func (.func 50) #[.pointer (some ⟨b, 0, none⟩)] #[], 1⟩]) Try.underlying115 Try.underlying33 rfl rfl rfl (fr.ev rfl) rfl (fr.ev rfl) M20 rfl rfl fun w24 hO25 hBq => ?_
 revert a
 replace M20 := hBq
 clear hBq
 refine Zm ?_
 refine Zv _ (fun _ fr => x_makeBound rfl (fr.ev rfl)) ?_
 intro a fr
 refine fx_insert (es' := #[⟨.int .i64 8, .func (.func 50) #[.pointer (some ⟨b, 0, none⟩)] #[], 0⟩, ⟨.int .i64 9, .func (.func 50) #[.pointer (some ⟨b, 0, none⟩)] #[], 1⟩, ⟨.int .i64 10, .func (.func 50) #[.pointer (some ⟨b, 0, none⟩)] #[], 2⟩]) Try.underlying115 Try.underlying33 rfl rfl rfl (fr.ev rfl) rfl (fr.ev rfl) M20 rfl rfl fun w26 hO27 hBq => ?_
 revert a
 replace M20 := hBq
 clear hBq
 refine Zm ?_
 refine Zv _ (fun _ fr => x_makeBound rfl (fr.ev rfl)) ?_
 intro a fr
 refine fx_insert (es' := #[⟨.int .i64 8, .func (.func 50) #[.pointer (some ⟨b, 0, none⟩)] #[], 0⟩, ⟨.int .i64 9, .func (.func 50) #[.pointer (some ⟨b, 0, none⟩)] #[], 1⟩, ⟨.int .i64 10, .func (.func 50) #[.pointer (some ⟨b, 0, none⟩)] #[], 2⟩, ⟨.int .i64 4, .func (.func 51) #[.pointer (some ⟨b, 0, none⟩)] #[], 3⟩]) Try.underlying115 Try.underlying33 rfl rfl rfl (fr.ev rfl) rfl (fr.ev rfl) M20 rfl rfl fun w28 hO29 hBq => ?_
 revert a
 replace M20 := hBq
 clear hBq
 refine Zm ?_
 refine Zv _ (fun _ fr => x_makeBound rfl (fr.ev rfl)) ?_
 intro a fr
 refine fx_insert (es' := #[⟨.int .i64 8, .func (.func 50) #[.pointer (some ⟨b, 0, none⟩)] #[], 0⟩, ⟨.int .i64 9, .func (.func 50) #[.pointer (some ⟨b, 0, none⟩)] #[], 1⟩, ⟨.int .i64 10, .func (.func 50) #[.pointer (some ⟨b, 0, none⟩)] #[], 2⟩, ⟨.int .i64 4, .func (.func 51) #[.pointer (some ⟨b, 0, none⟩)] #[], 3⟩, ⟨.int .i64 5, .func (.func 51) #[.pointer (some ⟨b, 0, none⟩)] #[], 4⟩]) Try.underlying115 Try.underlying33 rfl rfl rfl (fr.ev rfl) rfl (fr.ev rfl) M20 rfl rfl fun w30 hO31 hBq => ?_
 revert a
 replace M20 := hBq
 clear hBq
 refine Zm ?_
 refine Zv _ (fun _ fr => x_makeBound rfl (fr.ev rfl)) ?_
 intro a fr
 refine fx_insert (es' := #[⟨.int .i64 8, .func (.func 50) #[.pointer (some ⟨b, 0, none⟩)] #[], 0⟩, ⟨.int .i64 9, .func (.func 50) #[.pointer (some ⟨b, 0, none⟩)] #[], 1⟩, ⟨.int .i64 10, .func (.func 50) #[.pointer (some ⟨b, 0, none⟩)] #[], 2⟩, ⟨.int .i64 4, .func (.func 51) #[.pointer (some ⟨b, 0, none⟩)] #[], 3⟩, ⟨.int .i64 5, .func (.func 51) #[.pointer (some ⟨b, 0, none⟩)] #[], 4⟩, ⟨.int .i64 6, .func (.func 52) #[.pointer (some ⟨b, 0, none⟩)] #[], 5⟩]) Try.underlying115 Try.underlying33 rfl rfl rfl (fr.ev rfl) rfl (fr.ev rfl) M20 rfl rfl fun w32 hO33 hBq => ?_
 revert a
 replace M20 := hBq
 clear hBq
 refine Zm ?_
 refine Zv _ (fun _ fr => x_makeBound rfl (fr.ev rfl)) ?_
 intro a fr
 refine fx_insert (es' := #[⟨.int .i64 8, .func (.func 50) #[.pointer (some ⟨b, 0, none⟩)] #[], 0⟩, ⟨.int .i64 9, .func (.func 50) #[.pointer (some ⟨b, 0, none⟩)] #[], 1⟩, ⟨.int .i64 10, .func (.func 50) #[.pointer (some ⟨b, 0, none⟩)] #[], 2⟩, ⟨.int .i64 4, .func (.func 51) #[.pointer (some ⟨b, 0, none⟩)] #[], 3⟩, ⟨.int .i64 5, .func (.func 51) #[.pointer (some ⟨b, 0, none⟩)] #[], 4⟩, ⟨.int .i64 6, .func (.func 52) #[.pointer (some ⟨b, 0, none⟩)] #[], 5⟩, ⟨.int .i64 7, .func (.func 53) #[.pointer (some ⟨b, 0, none⟩)] #[], 6⟩]) Try.underlying115 Try.underlying33 rfl rfl rfl (fr.ev rfl) rfl (fr.ev rfl) M20 rfl rfl fun w34 hO35 hBq => ?_
 revert a
 replace M20 := hBq
 clear hBq
 refine Zm ?_
 refine Zf fo35_0 ?_
 replace B4 := (((((((B4.new hN19).only hO23 ne_b1_r17).only hO25 ne_b1_r17).only hO27 ne_b1_r17).only hO29 ne_b1_r17).only hO31 ne_b1_r17).only hO33 ne_b1_r17).only hO35 ne_b1_r17
 refine Zd (v := .int .i64 m.kind) pl33 (B4.cell 0 rfl) ?_
 refine Zv (.func (.func f) #[.pointer (some ⟨b, 0, none⟩)] #[]) (fun _ fr => x_lookup (k := .i64) (ok := false) (v := .func (.func f) #[.pointer (some ⟨b, 0, none⟩)] #[]) (b := true) Try.underlying115 Try.underlying33 rfl (fr.ev rfl) (fr.ev rfl) M20 (z := .nilFunc) (by kernel_rfl) hes) ?_
 refine ZE msgE ag35 (B4.rangeE msgE) ?_
 intro a fr
 replace H := (((((((H.new hN19).only hO23 (ne1P ap_Fp_r17)).only hO25 (ne1P ap_Fp_r17)).only hO27 (ne1P ap_Fp_r17)).only hO29 (ne1P ap_Fp_r17)).only hO31 (ne1P ap_Fp_r17)).only hO33 (ne1P ap_Fp_r17)).only hO35 (ne1P ap_Fp_r17)
 replace hF := (((((((hF.trNew hN19).loc hO23 (.inr g_r17)).loc hO25 (.inr g_r17)).loc hO27 (.inr g_r17)).loc hO29 (.inr g_r17)).loc hO31 (.inr g_r17)).loc hO33 (.inr g_r17)).loc hO35 (.inr g_r17)
 refine fx_callp rfl (x_callb (all := #[.pointer (some ⟨b, 0, none⟩), .agg (msgE.arr m)]) (vs := [.agg (msgE.arr m)]) rfl (fr.ev rfl) ⟨(fr.ev rfl), trivial⟩ rfl hfn hnm hbd) (hc _ hF H) ?_
 rintro _ w36 ⟨rfl, hN37⟩
 refine fx_pt ?_
 replace B9 := ((((((((B9.new hN19).only hO23 ne_b6_r17).only hO25 ne_b6_r17).only hO27 ne_b6_r17).only hO29 ne_b6_r17).only hO31 ne_b6_r17).only hO33 ne_b6_r17).only hO35 ne_b6_r17).new hN37
 refine fx_panD1 fr rfl (caught_stop B9 220) [.tmp 4, .cell 5 26] [.slice none 0 0, .int .i64 220] rfl ?_
 rintro w9 ⟨hE9, hO9⟩
 refine ⟨⟨rfl, ⟨_, rfl, x_loadV1 pl26 (hE9.cell 0 rfl)⟩, trivial⟩, ?_⟩
 replace H := (H.new hN37).only hO9 (ne1P ap_Fp_b6)
 replace hF := (hF.trNew hN37).loc hO9 (.inr g_b6)
 exact ⟨_, rfl, rfl, H, hF⟩
end Go.Proofs.Ytflnlmibkbojcaa
namespace Go.Proofs.Ytflnlmibkbojcaa
open Go.RowKit
theorem appseq_c {w : World} {Fp : Nat → Prop} {b n : Nat} {ways : Int} {L : List Ln} (H : LinesAt w Fp b n ways L) {bn : Nat} (Bn : Blk w bn 79 #[.pointer (some ⟨b, 0, none⟩)]) (ap_Fp_bn : ¬ Fp bn) (hl : L.length ≤ 100000) : Calls Try.prog 81 #[.slice none 0 0, .func (.func 82) #[] #[.pointer (some ⟨bn, 0, none⟩)]] w (Ret fun v w' => ∃ A' cap', v = .slice A' (allL n L).length cap' ∧ Own lnE w' A' cap' (allL n L) ∧ (∀ g, inA A' g → w.heap.size ≤ g) ∧ New w w') := by
 have hxs := allL_len (H.bd).1 L
 have hF := Only.refl (fun _ => False) w
 refine fx_enterM Try.func81 rfl (N := (13, [])) (T := [(0, .slice none 0 0), (1, .func (.func 82) #[] #[.pointer (some ⟨bn, 0, none⟩)])]) rfl (show 2 ≤ 13 by decide) ⟨rfl, rfl, trivial⟩ fun a fr => ?_
 refine wp_seq ?_
 refine wp_region_lit ?_
 refine fx_new fr rfl rfl (by first | decide | simp) (x_box (cs := #[.slice none 0 0]) rfl (fr.ev rfl) rfl) ?_
 clear fr a
 intro b1 w2 hN3 B4 hb5 a fr
 have ap_Fp_b1 : ¬ Fp b1 := H.apart hb5
 have ne_bn_b1 : NE bn b1 := NE.mk (Nat.lt_of_lt_of_le Bn.lt hb5)
 have g_b1 := Nat.le_trans hF.size hb5
 replace H := H.new hN3
 replace Bn := Bn.new hN3
 replace hF := hF.trNew hN3
 refine fx_val (v := .slice none 0 0) fr rfl rfl (by first | decide | simp) (x_assign rfl rfl) ?_
 clear fr a; intro a fr
 refine wpList_nil ?_
 refine fx_next ?_
 refine wp_seq ?_
 refine wp_seq ?_
 refine wp_region_lit ?_
 refine fx_val (v := .func (.func 82) #[] #[.pointer (some ⟨bn, 0, none⟩)]) fr rfl rfl (by first | decide | simp) (x_move rfl (fr.ev rfl)) ?_
 clear fr a; intro a fr
 refine wpList_nil ?_
 refine fx_next ?_
 refine wp_block ?_
 have lt_b1 := B4.lt
 refine fx_range (xs := allL n L) (e := fun x : Ln => Value.agg (lnE.arr x)) fr rfl (show 7 < 13 by decide) (enters_of Try.func82 nm82 rfl) (SI := fun k => k = b1 ∨ w2.heap.size ≤ k) (fun _ h => .inr h) (all_stops H Bn (fun h => h.elim (by first | exact ne_bn_b1 | exact ne_b1_bn.symm | (show ¬ bn = b1; omega)) (fun h => by have := Bn.lt; omega)) (fun g hg => (fun h => h.elim ((ne1P ap_Fp_b1) g hg) (fun h => by have := H.lt hg; omega)))) (fun pre W => ∃ A : Option Addr, ∃ cap : Nat, Blk W b1 40 #[.slice A pre.length cap] ∧ Own lnE W A cap pre ∧ Only (fun k => k = b1) w2 W ∧ ∀ g, inA A g → w2.heap.size ≤ g) (fun c pre W => False) (fun x a' W => ∃ b6 : Nat, Blk W b6 39 (lnE.arr x) ∧ w2.heap.size ≤ b6 ∧ Fr (13, []) [(0, .slice none 0 0), (1, .func (.func 82) #[] #[.pointer (some ⟨bn, 0, none⟩)]), (2, .pointer (some ⟨b1, 0, none⟩)), (4, .slice none 0 0), (6, .func (.func 82) #[] #[.pointer (some ⟨bn, 0, none⟩)]), (7, .agg (lnE.arr x)), (5, .pointer (some ⟨b6, 0, none⟩))] a') ?_ ?_ ?_ ?_ ⟨none, 0, B4, Own.nil, Only.refl _ _, (fun g hg => absurd hg (apart_none g))⟩ ?_ ?_ ?_ ?_
 ·rintro pre W W' ⟨A, cap, Bo, Oc, hC, hg_A⟩ hT; exact ⟨A, cap, Bo.turn hT, Oc.turn hT, hC.turn hT (Nat.le_refl _), hg_A⟩
 ·exact fun _ _ _ _ h _ => h.elim
 ·rintro x a' _ W W' ⟨b6, B9, h_b6, hf⟩ hT; exact ⟨b6, B9.turn hT, h_b6, hf⟩
 ·rintro pre W W' ⟨A, cap, Bo, Oc, hC, hg_A⟩ hN; exact ⟨A, cap, Bo.new hN, Oc.new hN, hC.trNew hN, hg_A⟩
 ·skip
  rintro l pre x W K ⟨A, cap, Bo, Oc, hC, hg_A⟩ hK a fr
  have hF := Only.refl (fun _ => False) W
  refine fxr_region (by kernel_rfl) (by rintro ⟨_, _, h⟩; exact h) ?_
  refine fx_new fr rfl rfl (by first | decide | simp) (x_alloc (z := .agg (#[.int .u32 0, .int .i64 0, .int .u8 0, .int .u8 0, .int .u8 0, .int .u8 0, .int .u8 0, .int .u8 0, .int .u8 0, .int .u8 0, .int .u8 0, .int .u8 0, .int .u8 0, .int .u8 0, .int .u8 0, .int .u8 0, .int .u8 0, .int .u8 0])) (cs := lnE.arr ln0) rfl (by kernel_rfl) rfl) ?_
  clear fr a
  intro b6 w7 hN8 B9 hb10 a fr
  have g_b6 := Nat.le_trans hF.size hb10
  replace hF := hF.trNew hN8
  refine fx_storeS sz39 rfl rfl rfl (fr.ev rfl) (fr.ev rfl) (lnE.all _) B9 (lnE.size _) (lnE.size _) fun w11 hO12 hBq => ?_
  replace hF := hF.loc hO12 (.inr g_b6)
  replace B9 := hBq
  clear hBq
  refine wpList_nil ?_
  refine hK _ _ hF ⟨b6, B9, Nat.le_trans hC.size g_b6, fr.sub ⟨rfl, rfl, rfl, rfl, rfl, rfl, rfl, trivial⟩⟩
 ·skip
  rintro lq pre x a W ⟨A, cap, Bo, Oc, hC, hg_A⟩ ⟨b6, B9, h_b6, fr⟩ hlen
  have ne_b1_b6 : NE b1 b6 := NE.mk (Nat.lt_of_lt_of_le lt_b1 h_b6)
  have ap_A_b1 : Apart A b1 := fun h => by have := hg_A _ h; omega
  have cl_b1 := Bo.cells
  have cl_A := fun g (hg : inA A g) => Oc.cells hg
  have hF := Only.refl (fun k => k = b1 ∨ inA A k) W
  have gA_A : ∀ g, inA A g → (fun k => k = b1 ∨ inA A k) g ∨ W.heap.size ≤ g := fun g hg => .inl (Or.inr (hg))
  have hcl : ∀ k, k < W.heap.size → (fun k => k = b1 ∨ inA A k) k → (fun k => k = b1 ∨ w2.heap.size ≤ k) k ∧ ∃ o : Obj, W.heap[k]? = some o ∧ o.isCells = true := by
   rintro k _ (rfl | hs)
   ·exact ⟨Or.inl rfl, cl_b1⟩
   ·exact ⟨Or.inr (hg_A k hs), cl_A k hs⟩
  have hSS : ∀ k, k < w2.heap.size → (fun k => k = b1 ∨ inA A k) k → (fun k => k = b1) k := by
   rintro k hk (rfl | hs)
   ·exact rfl
   ·have := hg_A k hs; omega
  have hxl : pre.length ≤ 100000 := by have := hxs; omega
  refine wpIn_block ?_
  refine fxr_region (by kernel_rfl) (by rintro ⟨_, _, h⟩; exact h) ?_
  refine fx_val (v := .slice A pre.length cap) fr rfl rfl (by first | decide | simp) (x_load1 pl40 rfl (fr.ev rfl) (Bo.cell 0 rfl)) ?_
  clear fr a; intro a fr
  refine fx_val (v := .agg (lnE.arr x)) fr rfl rfl (by first | decide | simp) (x_loadE (E := lnE) ag39 rfl rfl (fr.ev rfl) (B9.rangeE lnE)) ?_
  clear fr a; intro a fr
  refine fx_build1 (E := lnE) (p := x) elLn (by decide) fr rfl rfl (by decide) rfl (fr.ev rfl) ?_
  clear fr a
  intro A13 w14 hN15 O16 hA17 a fr
  have ap_A13_b1 : Apart A13 b1 := new_apart hA17 Bo.lt
  have ap2_A_A13 : Apart2 A A13 := (new_apart2 hA17 fun _ hg => Oc.lt hg).symm
  have ap_A13_b6 : Apart A13 b6 := new_apart hA17 B9.lt
  have gA_A13 := gA_new hF hA17
  replace Bo := Bo.new hN15
  replace Oc := Oc.new hN15
  replace B9 := B9.new hN15
  replace hF := hF.trNew hN15
  refine fx_append (E := lnE) (l := pre) (l' := [x]) elLn fr rfl rfl (by decide) rfl (fr.ev rfl) (fr.ev rfl) (by first | rfl | (simp; done) | (simp; omega)) (by first | rfl | (simp; done) | (simp; omega)) Oc O16.view (by first | omega | (simp only [List.length_append, List.length_cons, List.length_nil]; omega)) (by unfold maxLen; first | omega | (simp; omega)) ?_
  clear fr a
  intro A18 cap19 w20 O21 hO22 mv23 a fr
  have ap_A18_b1 : Apart A18 b1 := moved_apart mv23 ap_A_b1 Bo.lt
  have ap2_A18_A13 : Apart2 A18 A13 := moved_apart2 mv23 ap2_A_A13 fun _ hg => O16.lt hg
  have gA_A18 := gA_moved hF mv23 gA_A
  replace Bo := Bo.only hO22 ap_A_b1
  replace O16 := O16.only hO22 (fun g h1 h2 => ap2_A_A13.symm g h1 h2)
  replace hF := hF.locA hO22 gA_A
  clear Oc
  refine fx_store1 sz40 rfl rfl rfl (fr.ev rfl) (fr.ev rfl) rfl Bo (show 0 < 1 by decide) (cs' := #[.slice A18 ((pre ++ ([x])).length) cap19]) rfl fun w24 hO25 hBq => ?_
  replace O16 := O16.only hO25 (Apart.ne1 ap_A13_b1)
  replace O21 := O21.only hO25 (Apart.ne1 ap_A18_b1)
  replace hF := hF.loc hO25 (.inl (Or.inl rfl))
  replace Bo := hBq
  clear hBq
  refine wpList_nil ?_
  refine fx_blk ?_
  exact ⟨⟨_, hF, hcl⟩, A18, cap19, Bo, O21, hC.trans hF hSS, (fun g hg => (gA_A18 g hg).elim (fun h => by rcases h with rfl | hs; all_goals first | exact hg_A g hs | exact absurd hg (by first | exact ap_A18_b1 | (intro h; exact h))) (fun h => Nat.le_trans hC.size h))⟩
 ·skip
  rintro D26 W1 hD ⟨A, cap, Bo, Oc, hC, hg_A⟩ hD_D26 a fr
  have g_D26 := Nat.le_trans hF.size hD
  have ap_A_b1 : Apart A b1 := fun h => by have := hg_A _ h; have := lt_b1; omega
  have ap2_Fp_A : ∀ k, Fp k → inA A k → False := symP (new_apart2P hg_A fun _ hg => H.lt hg)
  have ap_A_bn : Apart A bn := new_apart hg_A Bn.lt
  have gA_A := gA_new hF hg_A
  replace H := H.only hC (ne1P ap_Fp_b1)
  replace Bn := Bn.only hC (by first | exact ne_bn_b1 | exact ne_b1_bn.symm | (show ¬ bn = b1; omega))
  replace hF := hF.loc hC (.inr g_b1)
  have ne_bn_D26 := Bn.mark hD_D26
  have ne_b1_D26 := Bo.mark hD_D26
  have ap_A_D26 := Oc.mark hD_D26
  refine fx_blk ?_
  refine fx_next ?_
  refine wp_seq ?_
  refine wp_region_lit ?_
  refine fx_val (v := .slice A ((allL n L).length) cap) fr rfl rfl (by first | decide | simp) (x_load1 pl40 rfl (fr.ev rfl) (Bo.cell 0 rfl)) ?_
  clear fr a; intro a fr
  refine fx_val (v := .slice A ((allL n L).length) cap) fr rfl rfl (by first | decide | simp) (x_assign rfl (fr.ev rfl)) ?_
  clear fr a; intro a fr
  refine wpList_nil ?_
  refine fx_next ?_
  refine wp_ret ?_
  refine fx_retM1 fr g_D26 hD_D26 [.tmp 4] [.slice A ((allL n L).length) cap] rfl rfl ?_
  intro wE hT
  replace H := H.turn hT
  replace Bn := Bn.turn hT
  replace Bo := Bo.turn hT
  replace Oc := Oc.turn hT
  replace hF := hF.turn hT (Nat.le_refl _)
  refine ⟨⟨rfl, trivial⟩, ?_⟩
  exact ⟨_, rfl, A, cap, rfl, Oc, (fun g hg => (gA_A g hg).resolve_left (fun h => h)), hF⟩
 ·skip
  exact fun _ _ _ _ _ _ h _ _ _ => h.elim
theorem collect_c {w : World} {Fp : Nat → Prop} {b n : Nat} {ways : Int} {L : List Ln} (H : LinesAt w Fp b n ways L) {bn : Nat} (Bn : Blk w bn 79 #[.pointer (some ⟨b, 0, none⟩)]) (ap_Fp_bn : ¬ Fp bn) (hl : L.length ≤ 100000) : Calls Try.prog 68 #[.func (.func 82) #[] #[.pointer (some ⟨bn, 0, none⟩)]] w (Ret fun v w' => ∃ A' cap', v = .slice A' (allL n L).length cap' ∧ Own lnE w' A' cap' (allL n L) ∧ (∀ g, inA A' g → w.heap.size ≤ g) ∧ New w w') := by
 have hF := Only.refl (fun _ => False) w
 refine Zen 5 Try.func68 ?_
 refine Zsr ?_
 refine Zan ?_
 refine Zsm ?_
 refine Zk (args := #[.slice none 0 0, .func (.func 82) #[] #[.pointer (some ⟨bn, 0, none⟩)]]) cf81 (appseq_c H Bn ap_Fp_bn (by omega)) ?_
 rintro v w5 ⟨A1, cap2, rfl, O3, hA4, hN6⟩
 have gA_A1 := gA_new hF hA4
 refine Zar ?_
 refine Zre rfl [_] ⟨rfl, trivial⟩ ?_
 replace hF := hF.trNew hN6
 exact ⟨_, rfl, A1, cap2, rfl, O3, (fun g hg => (gA_A1 g hg).resolve_left (fun h => h)), hF⟩
theorem clines_c {w : World} {b lb : Nat} {id : Int} {pa pg : Value} {FpL : Nat → Prop} {n : Nat} {ways : Int} {L : List Ln} (hB : Blk w b 83 #[.int .i64 id, .pointer (some ⟨lb, 0, none⟩), pa, pg]) (hL : LinesAt w FpL lb n ways L) (ap_FpL_b : ¬ FpL b) (hl : L.length ≤ 100000) : Calls Try.prog 30 #[.pointer (some ⟨b, 0, none⟩)] w (Ret fun v w' => ∃ A' cap', v = .slice A' (allL n L).length cap' ∧ Own lnE w' A' cap' (allL n L) ∧ (∀ g, inA A' g → w.heap.size ≤ g) ∧ New w w') := by
 obtain ⟨hn1, hn2, hw1, hw2⟩ := hL.bd
 have hF := Only.refl (fun _ => False) w
 refine Zen 11 Try.func30 ?_
 refine Zsr ?_
 refine Zaq ?_
 refine Zsm ?_
 refine Zk cf43 (cnone_c hB) ?_
 rintro v w9 ⟨rfl, hw9⟩
 obtain rfl := hw9.symm
 refine Znf ?_
 refine Zkn ?_
 refine Zsm ?_
 refine Zn ?_
 refine Zf fo83_1 ?_
 refine Zd pl79 (hB.cell 1 rfl) ?_
 refine Zk cf69 (all_c hL) ?_
 rintro v w11 ⟨bn3, b5, Fp6, rfl, Bn4, H7, hb8, hf9, hx10, hN12⟩
 have ap_Fp6_bn3 : ¬ Fp6 bn3 := hx10
 refine Zk (args := #[.func (.func 82) #[] #[.pointer (some ⟨bn3, 0, none⟩)]]) cf68 (collect_c H7 Bn4 ap_Fp6_bn3 (by omega)) ?_
 rintro v w17 ⟨A13, cap14, rfl, O15, hA16, hN18⟩
 replace hF := hF.trNew hN12
 have gA_A13 := gA_new hF hA16
 refine Zar ?_
 refine Zre rfl [_] ⟨rfl, trivial⟩ ?_
 replace hF := hF.trNew hN18
 exact ⟨_, rfl, A13, cap14, rfl, O15, (fun g hg => (gA_A13 g hg).resolve_left (fun h => h)), hF⟩
theorem cnew_yes (id : Int) (n : Nat) (ways : Int) (h1 : ¬ id < 0) (h2 : ¬ 4 ≤ id) (hr : rightB ((n : Nat) : Int) ways = true) (w : World) : Calls Try.prog 12 #[.int .i64 id, .int .i64 ((n : Nat) : Int), .int .i64 ways] w (Ret fun v w' => ∃ b Fp, v = .tuple #[.pointer (some ⟨b, 0, none⟩), .int .i64 0] ∧ CacheAt w' Fp b ⟨id, n, ways, [], none, none⟩ ∧ (∀ g, Fp g → w.heap.size ≤ g) ∧ New w w') := by
 have hF := Only.refl (fun _ => False) w
 refine Zen 30 Try.func12 ?_
 refine Zsr ?_
 refine Za ?_
 refine Zan ?_
 refine Zsm ?_
 refine Zm ?_
 refine Zk cf42 (new_yes n ways _ hr) ?_
 rintro v w5 ⟨b1, Fp2, rfl, H3, hb4, hN6⟩
 have gA_Fp2 := gA_newP hF hb4
 refine Zm ?_
 refine Ztt ?_
 refine Za ?_
 refine Zaq ?_
 refine Zsm ?_
 refine Zv (.bool false) (fun _ fr => x_neq rfl (fr.ev rfl) rfl rfl) ?_
 refine Zmm ?_
 refine Zv (.bool false) (fun _ fr => x_lss rfl (fr.ev rfl) rfl (decide_eq_false h1)) ?_
 refine Zpf ?_
 refine Zmm ?_
 refine Zv (.bool false) (fun _ fr => x_geq rfl (fr.ev rfl) rfl (decide_eq_false h2)) ?_
 refine Zpf ?_
 refine Znf ?_
 refine Zkn ?_
 refine Zsm ?_
 refine Zm ?_
 refine Zv (.agg (#[.int .i64 id, .pointer (some ⟨b1, 0, none⟩), .pointer none, .pointer none])) (fun a fr => x_build (cells := #[.int .i64 id, .pointer (some ⟨b1, 0, none⟩), .pointer none, .pointer none]) rfl (by simp only [List.map_toArray, List.map_cons, List.map_nil, show a.eval (.tmp 26) = .int .i64 id from fr.ev rfl, show a.eval (.tmp 27) = .pointer (some ⟨b1, 0, none⟩) from fr.ev rfl]; kernel_rfl)) ?_
 refine Znb (cs := #[.int .i64 id, .pointer (some ⟨b1, 0, none⟩), .pointer none, .pointer none]) fun b7 w8 hN9 B10 hb11 => ?_
 have ap_Fp2_b7 := H3.apart hb11
 replace hF := hF.trNew hN6
 have g_b7 := hF.sz hb11
 refine Za ?_
 refine Zar ?_
 refine Zre rfl [_, _] ⟨rfl, rfl, trivial⟩ ?_
 replace H3 := H3.new hN9
 replace hF := hF.trNew hN9
 exact ⟨_, rfl, b7, (fun k => k = b7 ∨ Fp2 k ∨ (fun _ => False) k ∨ (fun _ => False) k), rfl, ⟨_, Fp2, _, _, (fun _ => False), (fun _ => False), B10, H3, ⟨rfl, fun _ h => h⟩, ⟨rfl, fun _ h => h⟩, ⟨ap_Fp2_b7, fun h => h, fun h => h, fun _ _ h => h, fun _ _ h => h, fun _ h => h.elim, fun _ => Iff.rfl⟩⟩, (fun g hg => hg.elim (fun e => by rw [e]; exact g_b7) fun h => h.elim (fun h => (gA_Fp2 g h).resolve_left (fun h => h)) fun h => h.elim (fun h => h.elim) (fun h => h.elim)), hF⟩
end Go.Proofs.Ytflnlmibkbojcaa
