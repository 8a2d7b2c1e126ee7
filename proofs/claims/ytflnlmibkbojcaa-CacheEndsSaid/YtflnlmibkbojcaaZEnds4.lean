/-
  Part 4 of what the claim stands on: walks through the code, plain laws.
-/
import Derived.Test.YtflnlmibkbojcaaZEnds3
set_option maxRecDepth 100000
set_option maxHeartbeats 4000000
namespace Go.Proofs.Ytflnlmibkbojcaa
open Go.RowKit
theorem hwrite_c {w : World} {bw be bh bi ig cap r : Nat} {line : Int} {d : Ent} {Q : Option Addr} {qc : Nat} {A : Option Addr} {ac : Nat} {out : List Msg} {bs : List UInt8} (R : WorkR w bw be bh bi ig cap r line d Q qc A ac out bs) (hln : 0 ≤ line ∧ line < 4294967296) (hlen : out.length + 8 ≤ 1000000)  : Calls Try.prog 102 #[.pointer (some ⟨bw, 0, none⟩)] w (Ret fun v w' => v = .tuple #[] ∧ WRet w w' bw be bh bi ig cap r line Q qc A out ({ ownF d d.asks with told := true }) bs ([mkM 10 4 d.asks line (lineB bs line) hln])) := by
 obtain ⟨hW, hE, hH, hI, hQ, hO, hS⟩ := R
 have ne_bw_be := hS.ne_bw_be
 have ne_bw_bh := hS.ne_bw_bh
 have ne_bw_bi := hS.ne_bw_bi
 have ne_bw_ig := hS.ne_bw_ig
 have ne_be_bh := hS.ne_be_bh
 have ne_be_bi := hS.ne_be_bi
 have ne_be_ig := hS.ne_be_ig
 have ne_bh_bi := hS.ne_bh_bi
 have ne_bh_ig := hS.ne_bh_ig
 have ne_bi_ig := hS.ne_bi_ig
 have ap_Q_bw := hS.ap_Q_bw
 have ap_Q_be := hS.ap_Q_be
 have ap_Q_bh := hS.ap_Q_bh
 have ap_Q_bi := hS.ap_Q_bi
 have ap_Q_ig := hS.ap_Q_ig
 have ap_A_bw := hS.ap_A_bw
 have ap_A_be := hS.ap_A_be
 have ap_A_bh := hS.ap_A_bh
 have ap_A_bi := hS.ap_A_bi
 have ap_A_ig := hS.ap_A_ig
 have ap2_Q_A := hS.ap2_Q_A
 have gA_A : ∀ g, inA A g → (g = bw ∨ g = be ∨ g = ig ∨ inA A g) ∨ w.heap.size ≤ g := fun g hg => .inl (.inr (.inr (.inr hg)))
 have hF := Only.refl (fun k => k = bw ∨ k = be ∨ k = ig ∨ inA A k) w
 refine Zen 26 Try.func102 ?_
 refine Zsm ?_
 refine Zm ?_
 refine Zn ?_
 refine Zf fo176_1 ?_
 refine Zd pl144 (hW.cell 1 rfl) ?_
 refine Zn ?_
 refine Zf fo147_3 ?_
 refine Zd (v := .int .i64 d.asks) pl3 (hE.cell 6 rfl) ?_
 refine Zk cf103 (own_c hW hE ne_bw_be d.asks) ?_
 rintro v w2 ⟨rfl, hEn1, hN3⟩
 replace hE := hEn1
 clear hEn1
 refine Znn ?_
 refine Zsm ?_
 refine Zm ?_
 refine Zn ?_
 refine Zf fo176_1 ?_
 replace hW := hW.only hN3 ne_bw_be
 refine Zd pl144 (hW.cell 1 rfl) ?_
 refine Zn ?_
 refine Zf fo147_3 ?_
 refine Zd (v := .int .i64 d.asks) pl3 (hE.cell 6 rfl) ?_
 replace hH := hH.only hN3 ne_be_bh.symm
 replace hI := hI.only hN3 ne_be_bi.symm ne_be_ig.symm
 replace hO := hO.only hN3 (Apart.ne1 ap_A_be)
 refine Zk (args := #[.pointer (some ⟨bw, 0, none⟩), .int .i64 10, .int .i64 d.asks, .bool true]) cf104 (send_b hln hW hH hI hO ne_bw_bh ne_bw_bi ne_bw_ig ap_A_bw ap_A_bh ap_A_bi ap_A_ig (by first | omega | (simp only [List.length_append, List.length_cons, List.length_nil, List.length_map, List.length_take]; omega)) 10 d.asks) ?_
 rintro v w9 ⟨rfl, A4, ac5, hWn6, O7, mv8, hN10⟩
 have ap_A4_bw : Apart A4 bw := moved_apart mv8 ap_A_bw hW.lt
 have ap_A4_bh : Apart A4 bh := moved_apart mv8 ap_A_bh hH.lt
 have ap_A4_bi : Apart A4 bi := moved_apart mv8 ap_A_bi hI.lt.1
 have ap_A4_ig : Apart A4 ig := moved_apart mv8 ap_A_ig hI.lt.2
 replace hQ := hQ.only hN3 (Apart.ne1 ap_Q_be)
 have ap2_A4_Q : Apart2 A4 Q := moved_apart2 mv8 ap2_Q_A.symm fun _ hg => hQ.lt hg
 have ap_A4_be : Apart A4 be := moved_apart mv8 ap_A_be hE.lt
 replace hF := hF.loc hN3 (.inl (.inr (.inl rfl)))
 have gA_A4 := gA_moved hF mv8 gA_A
 clear hW hO
 have hW := hWn6
 clear hWn6
 refine Znn ?_
 refine Zgm ?_
 refine Zn ?_
 refine Zf fo176_1 ?_
 refine Zd pl144 (hW.cell 1 rfl) ?_
 refine Zn ?_
 refine Zf fo147_6 ?_
 replace hE := hE.only hN10 (fun h => h.elim ne_bw_be.symm ap_A_be)
 refine Zs1 (cs' := entA ({ ownF d d.asks with told := true }) (.slice Q d.q.length qc)) sz4 hE (show 9 < 11 by decide) rfl fun w11 hO12 hE => ?_
 refine Znl ?_
 refine Zee rfl [] trivial ?_
 replace hH := (hH.only hN10 (fun h => h.elim ne_bw_bh.symm ap_A_bh)).only hO12 ne_be_bh.symm
 replace hI := (hI.only hN10 (fun h => h.elim ne_bw_bi.symm ap_A_bi) (fun h => h.elim ne_bw_ig.symm ap_A_ig)).only hO12 ne_be_bi.symm ne_be_ig.symm
 replace hQ := (hQ.only hN10 (fun g hg => (fun h => h.elim ((Apart.ne1 ap_Q_bw) g hg) ((fun g h1 h2 => ap2_Q_A g h1 h2) g hg)))).only hO12 (Apart.ne1 ap_Q_be)
 replace hF := (hF.loc2 hN10 (.inl (.inl rfl)) gA_A).loc hO12 (.inl (.inr (.inl rfl)))
 replace hW := hW.only hO12 ne_bw_be
 replace O7 := O7.only hO12 (Apart.ne1 ap_A4_be)
 exact ⟨_, rfl, rfl, A4, ac5, ⟨hW, hE, hH, hI, hQ, O7, ⟨ne_bw_be, ne_bw_bh, ne_bw_bi, ne_bw_ig, ne_be_bh, ne_be_bi, ne_be_ig, ne_bh_bi, ne_bh_ig, ne_bi_ig, ap_Q_bw, ap_Q_be, ap_Q_bh, ap_Q_bi, ap_Q_ig, ap_A4_bw, ap_A4_be, ap_A4_bh, ap_A4_bi, ap_A4_ig, ap2_A4_Q.symm⟩⟩, wmv gA_A4 ap_A4_bw ap_A4_be ap_A4_ig, hF⟩
theorem gets_c {w : World} {bw be bh bi ig cap r : Nat} {d : Ent} {Q : Option Addr} {qc : Nat} {A : Option Addr} {ac : Nat} {out : List Msg} {bs : List UInt8} (m : Msg) (R : WorkR w bw be bh bi ig cap r m.line d Q qc A ac out bs) (hlen : out.length + 8 ≤ 1000000) (hsrc : 0 ≤ m.src ∧ m.src < 4) (hk : m.kind = 1) : Calls Try.prog 106 #[.pointer (some ⟨bw, 0, none⟩), .agg (msgE.arr m)] w (Ret fun v w' => v = .tuple #[] ∧ WRet w w' bw be bh bi ig cap r m.line Q qc A out (beginF bs d m).1 (beginF bs d m).2.1 (beginF bs d m).2.2) := by
 obtain ⟨hW, hE, hH, hI, hQ, hO, hS⟩ := R
 have ne_bw_be := hS.ne_bw_be
 have ne_bw_bh := hS.ne_bw_bh
 have ne_bw_bi := hS.ne_bw_bi
 have ne_bw_ig := hS.ne_bw_ig
 have ne_be_bh := hS.ne_be_bh
 have ne_be_bi := hS.ne_be_bi
 have ne_be_ig := hS.ne_be_ig
 have ne_bh_bi := hS.ne_bh_bi
 have ne_bh_ig := hS.ne_bh_ig
 have ne_bi_ig := hS.ne_bi_ig
 have ap_Q_bw := hS.ap_Q_bw
 have ap_Q_be := hS.ap_Q_be
 have ap_Q_bh := hS.ap_Q_bh
 have ap_Q_bi := hS.ap_Q_bi
 have ap_Q_ig := hS.ap_Q_ig
 have ap_A_bw := hS.ap_A_bw
 have ap_A_be := hS.ap_A_be
 have ap_A_bh := hS.ap_A_bh
 have ap_A_bi := hS.ap_A_bi
 have ap_A_ig := hS.ap_A_ig
 have ap2_Q_A := hS.ap2_Q_A
 have gA_A : ∀ g, inA A g → (g = bw ∨ g = be ∨ g = ig ∨ inA A g) ∨ w.heap.size ≤ g := fun g hg => .inl (.inr (.inr (.inr hg)))
 have hmn := m.hn
 have hF := Only.refl (fun k => k = bw ∨ k = be ∨ k = ig ∨ inA A k) w
 refine Zen 63 Try.func106 ?_
 refine Zsr ?_
 refine Znb (cs := msgE.arr m) fun b1 w2 hN3 B4 hb5 => ?_
 have ne_bw_b1 := nelt hW.lt hb5
 have ne_be_b1 := nelt hE.lt hb5
 have ap_A_b1 := hO.apart hb5
 refine Znn ?_
 refine Zsm ?_
 refine Zf fo35_1 ?_
 refine Zd (v := .int .i64 m.src) pl3 (B4.cell 1 rfl) ?_
 replace hW := hW.new hN3
 replace hE := hE.new hN3
 refine Zk cf112 (leave_c hW hE ne_bw_be m.src) ?_
 rintro v w7 ⟨rfl, hEn6, hN8⟩
 replace hE := hEn6
 clear hEn6
 refine Znn ?_
 refine Zbl ?_
 refine Zsm ?_
 refine Zn ?_
 refine Zf fo176_1 ?_
 replace hW := hW.only hN8 ne_bw_be
 refine Zd pl144 (hW.cell 1 rfl) ?_
 refine Zn ?_
 refine Zf fo147_0 ?_
 refine Zd (v := .int .i64 ((leaveF d m.src).o)) pl3 (hE.cell 0 rfl) ?_
 refine Zv (.bool (decide (0 ≤ (leaveF d m.src).o))) (fun _ fr => x_geq rfl (fr.ev rfl) rfl rfl) ?_
 refine Zan ?_
 refine Zcd (fun hc9 => ?_) (fun hc9 => ?_)
 ·have hc9 := of_decide_eq_true hc9
  refine Zsm ?_
  refine Zm ?_
  refine Zn ?_
  refine Zf fo176_1 ?_
  refine Zd pl144 (hW.cell 1 rfl) ?_
  refine Zn ?_
  refine Zf fo147_0 ?_
  refine Zd (v := .int .i64 ((leaveF d m.src).o)) pl3 (hE.cell 0 rfl) ?_
  replace hH := (hH.new hN3).only hN8 ne_be_bh.symm
  replace hI := (hI.new hN3).only hN8 ne_be_bi.symm ne_be_ig.symm
  replace hO := (hO.new hN3).only hN8 (Apart.ne1 ap_A_be)
  refine Zk (args := #[.pointer (some ⟨bw, 0, none⟩), .int .i64 4, .int .i64 ((leaveF d m.src).o), .bool false]) cf104 (send_n m.hn hW hH hI hO ne_bw_bh ne_bw_bi ne_bw_ig ap_A_bw ap_A_bh ap_A_bi ap_A_ig (by first | omega | (simp only [List.length_append, List.length_cons, List.length_nil, List.length_map, List.length_take]; omega)) 4 ((leaveF d m.src).o)) ?_
  rintro v w15 ⟨rfl, A10, ac11, hWn12, O13, mv14, hN16⟩
  have ap_A10_bw : Apart A10 bw := moved_apart mv14 ap_A_bw hW.lt
  have ap_A10_bh : Apart A10 bh := moved_apart mv14 ap_A_bh hH.lt
  have ap_A10_bi : Apart A10 bi := moved_apart mv14 ap_A_bi hI.lt.1
  have ap_A10_ig : Apart A10 ig := moved_apart mv14 ap_A_ig hI.lt.2
  replace hQ := (hQ.new hN3).only hN8 (Apart.ne1 ap_Q_be)
  have ap2_A10_Q : Apart2 A10 Q := moved_apart2 mv14 ap2_Q_A.symm fun _ hg => hQ.lt hg
  have ap_A10_be : Apart A10 be := moved_apart mv14 ap_A_be hE.lt
  replace hF := (hF.trNew hN3).loc hN8 (.inl (.inr (.inl rfl)))
  have gA_A10 := gA_moved hF mv14 gA_A
  clear hW hO
  have hW := hWn12
  clear hWn12
  refine Znn ?_
  refine Zgm ?_
  replace B4 := (B4.only hN8 ne_be_b1.symm).only hN16 (fun h => h.elim ne_bw_b1.symm ap_A_b1)
  refine ZE msgE ag35 (B4.rangeE msgE) ?_
  replace hE := hE.only hN16 (fun h => h.elim ne_bw_be.symm ap_A_be)
  refine Zk cf113 (busy_c hW hE ne_bw_be m 1 false) ?_
  rintro v w18 ⟨rfl, hEn17, hN19⟩
  replace hE := hEn17
  clear hEn17
  refine Znl ?_
  refine Zb ?_
  refine Zee rfl [] trivial ?_
  rw [begin_s1 hk hc9]
  replace hH := (hH.only hN16 (fun h => h.elim ne_bw_bh.symm ap_A_bh)).only hN19 ne_be_bh.symm
  replace hI := (hI.only hN16 (fun h => h.elim ne_bw_bi.symm ap_A_bi) (fun h => h.elim ne_bw_ig.symm ap_A_ig)).only hN19 ne_be_bi.symm ne_be_ig.symm
  replace hQ := (hQ.only hN16 (fun g hg => (fun h => h.elim ((Apart.ne1 ap_Q_bw) g hg) ((fun g h1 h2 => ap2_Q_A g h1 h2) g hg)))).only hN19 (Apart.ne1 ap_Q_be)
  replace hF := (hF.loc2 hN16 (.inl (.inl rfl)) gA_A).loc hN19 (.inl (.inr (.inl rfl)))
  replace hW := hW.only hN19 ne_bw_be
  replace O13 := O13.only hN19 (Apart.ne1 ap_A10_be)
  exact ⟨_, rfl, rfl, A10, ac11, ⟨hW, hE, hH, hI, hQ, O13, ⟨ne_bw_be, ne_bw_bh, ne_bw_bi, ne_bw_ig, ne_be_bh, ne_be_bi, ne_be_ig, ne_bh_bi, ne_bh_ig, ne_bi_ig, ap_Q_bw, ap_Q_be, ap_Q_bh, ap_Q_bi, ap_Q_ig, ap_A10_bw, ap_A10_be, ap_A10_bh, ap_A10_bi, ap_A10_ig, ap2_A10_Q.symm⟩⟩, wmv gA_A10 ap_A10_bw ap_A10_be ap_A10_ig, hF⟩
 ·have hc9 := of_decide_eq_false hc9
  refine Zsm ?_
  refine Zf fo35_1 ?_
  replace B4 := B4.only hN8 ne_be_b1.symm
  refine Zd (v := .int .i64 m.src) pl3 (B4.cell 1 rfl) ?_
  refine Zk cf114 (others_c hW hE ne_bw_be m.src) ?_
  rintro v w25 ⟨A20, c21, rfl, OL22, hA23, hN26⟩
  have hol24 : (othersF d.sh m.src).length ≤ 4 := othK_len _ _ 4
  refine Zv (.int .i64 (((othersF d.sh m.src).length : Nat) : Int)) (fun _ fr => x_len Try.underlying123 rfl (fr.ev rfl)) ?_
  refine Zv (.bool (decide (0 < (((othersF d.sh m.src).length : Nat) : Int)))) (fun _ fr => x_gtr rfl (fr.ev rfl) rfl rfl) ?_
  refine Zan ?_
  refine Zcd (fun hc27 => ?_) (fun hc27 => ?_)
  ·have hc27 := of_decide_eq_true hc27
   refine Zsq ?_
   refine Zhd (n := 10) (fun w => Blk w bw 176 #[.slice A out.length ac, .pointer (some ⟨be, 0, none⟩), .pointer (some ⟨bh, 0, none⟩), .int .u32 m.line] ∧ Blk w b1 35 (msgE.arr m) ∧ True) ?_
   intro w28 hN29
   replace hW := (hW.new hN26).new hN29
   replace B4 := (B4.new hN26).new hN29
   have hS9 := And.intro hW (And.intro B4 trivial)
   refine Zhm 0 hS9 ?_
   refine Zhc 1 hS9 ?_
   refine Zhf 2 fo176_1 hS9 ?_
   refine Zhl 3 pl144 hS9 (fun _ ⟨hW, _⟩ => (hW.cell 1 rfl)) ?_
   refine Zhf 4 fo35_1 hS9 ?_
   refine Zhl (v := .int .i64 m.src) 5 pl3 hS9 (fun _ ⟨_, B4, _⟩ => (B4.cell 1 rfl)) ?_
   refine Zhc 6 hS9 ?_
   refine Zhf 7 fo147_1 hS9 ?_
   refine Zht 8 rfl (.pointer (some ⟨be, 1 + m.src.toNat, none⟩)) hS9 (fun _ fr _ _ => x_indexArr Try.underlying145 sz4 rfl (fr.ev rfl) ((fr.ev rfl).trans (int_nat _ m.src (by omega))) (by omega) (by omega)) ?_
   refine Zh1 9 ?_
   replace hE := (hE.new hN26).new hN29
   refine Zs1 (cs' := entA ({ leaveF d m.src with sh := d.sh.set m.src true }) (.slice Q d.q.length qc)) sz4 hE (show 1 + m.src.toNat < 11 by omega) (ent_setSh _ _ m.src _ (by omega) (by omega)) fun w30 hO31 hE => ?_
   replace hW := hW.only hO31 ne_bw_be
   replace B4 := B4.only hO31 ne_be_b1.symm
   refine Zhb ⟨hW, B4, trivial⟩ ?_
   refine Zhn ?_
   refine Znx ?_
   refine Zsm ?_
   refine Zf fo35_1 ?_
   refine Zd (v := .int .i64 m.src) pl3 (B4.cell 1 rfl) ?_
   replace hH := ((((hH.new hN3).only hN8 ne_be_bh.symm).new hN26).new hN29).only hO31 ne_be_bh.symm
   replace hI := ((((hI.new hN3).only hN8 ne_be_bi.symm ne_be_ig.symm).new hN26).new hN29).only hO31 ne_be_bi.symm ne_be_ig.symm
   replace hO := ((((hO.new hN3).only hN8 (Apart.ne1 ap_A_be)).new hN26).new hN29).only hO31 (Apart.ne1 ap_A_be)
   refine Zk (args := #[.pointer (some ⟨bw, 0, none⟩), .int .i64 8, .int .i64 m.src, .bool true]) cf104 (send_b m.hn hW hH hI hO ne_bw_bh ne_bw_bi ne_bw_ig ap_A_bw ap_A_bh ap_A_bi ap_A_ig (by first | omega | (simp only [List.length_append, List.length_cons, List.length_nil, List.length_map, List.length_take]; omega)) 8 m.src) ?_
   rintro v w37 ⟨rfl, A32, ac33, hWn34, O35, mv36, hN38⟩
   have ap_A32_bw : Apart A32 bw := moved_apart mv36 ap_A_bw hW.lt
   have ap_A32_bh : Apart A32 bh := moved_apart mv36 ap_A_bh hH.lt
   have ap_A32_bi : Apart A32 bi := moved_apart mv36 ap_A_bi hI.lt.1
   have ap_A32_ig : Apart A32 ig := moved_apart mv36 ap_A_ig hI.lt.2
   replace hQ := ((((hQ.new hN3).only hN8 (Apart.ne1 ap_Q_be)).new hN26).new hN29).only hO31 (Apart.ne1 ap_Q_be)
   have ap2_A32_Q : Apart2 A32 Q := moved_apart2 mv36 ap2_Q_A.symm fun _ hg => hQ.lt hg
   have ap_A32_be : Apart A32 be := moved_apart mv36 ap_A_be hE.lt
   replace hF := ((((hF.trNew hN3).loc hN8 (.inl (.inr (.inl rfl)))).trNew hN26).trNew hN29).loc hO31 (.inl (.inr (.inl rfl)))
   have gA_A32 := gA_moved hF mv36 gA_A
   clear hW hO
   have hW := hWn34
   clear hWn34
   refine Znn ?_
   refine Zgm ?_
   replace B4 := B4.only hN38 (fun h => h.elim ne_bw_b1.symm ap_A_b1)
   refine ZE msgE ag35 (B4.rangeE msgE) ?_
   replace hE := hE.only hN38 (fun h => h.elim ne_bw_be.symm ap_A_be)
   refine Zk cf113 (busy_c hW hE ne_bw_be m 0 true) ?_
   rintro v w40 ⟨rfl, hEn39, hN41⟩
   replace hE := hEn39
   clear hEn39
   refine Znl ?_
   refine Zb ?_
   refine Zee rfl [] trivial ?_
   rw [begin_s2 hk hc9 (show 0 < (othersF (leaveF d m.src).sh m.src).length from by first | exact hc27 | (show 0 < (othersF d.sh m.src).length; omega))]
   replace hH := (hH.only hN38 (fun h => h.elim ne_bw_bh.symm ap_A_bh)).only hN41 ne_be_bh.symm
   replace hI := (hI.only hN38 (fun h => h.elim ne_bw_bi.symm ap_A_bi) (fun h => h.elim ne_bw_ig.symm ap_A_ig)).only hN41 ne_be_bi.symm ne_be_ig.symm
   replace hQ := (hQ.only hN38 (fun g hg => (fun h => h.elim ((Apart.ne1 ap_Q_bw) g hg) ((fun g h1 h2 => ap2_Q_A g h1 h2) g hg)))).only hN41 (Apart.ne1 ap_Q_be)
   replace hF := (hF.loc2 hN38 (.inl (.inl rfl)) gA_A).loc hN41 (.inl (.inr (.inl rfl)))
   replace hW := hW.only hN41 ne_bw_be
   replace O35 := O35.only hN41 (Apart.ne1 ap_A32_be)
   exact ⟨_, rfl, rfl, A32, ac33, ⟨hW, hE, hH, hI, hQ, O35, ⟨ne_bw_be, ne_bw_bh, ne_bw_bi, ne_bw_ig, ne_be_bh, ne_be_bi, ne_be_ig, ne_bh_bi, ne_bh_ig, ne_bi_ig, ap_Q_bw, ap_Q_be, ap_Q_bh, ap_Q_bi, ap_Q_ig, ap_A32_bw, ap_A32_be, ap_A32_bh, ap_A32_bi, ap_A32_ig, ap2_A32_Q.symm⟩⟩, wmv gA_A32 ap_A32_bw ap_A32_be ap_A32_ig, hF⟩
  ·have hc27 := of_decide_eq_false hc27
   refine Zsm ?_
   refine Zf fo35_1 ?_
   replace B4 := B4.new hN26
   refine Zd (v := .int .i64 m.src) pl3 (B4.cell 1 rfl) ?_
   replace hW := hW.new hN26
   replace hE := hE.new hN26
   refine Zk cf103 (own_c hW hE ne_bw_be m.src) ?_
   rintro v w43 ⟨rfl, hEn42, hN44⟩
   replace hE := hEn42
   clear hEn42
   refine Znn ?_
   refine Zsm ?_
   refine Zf fo35_1 ?_
   replace B4 := B4.only hN44 ne_be_b1.symm
   refine Zd (v := .int .i64 m.src) pl3 (B4.cell 1 rfl) ?_
   replace hH := (((hH.new hN3).only hN8 ne_be_bh.symm).new hN26).only hN44 ne_be_bh.symm
   replace hI := (((hI.new hN3).only hN8 ne_be_bi.symm ne_be_ig.symm).new hN26).only hN44 ne_be_bi.symm ne_be_ig.symm
   replace hO := (((hO.new hN3).only hN8 (Apart.ne1 ap_A_be)).new hN26).only hN44 (Apart.ne1 ap_A_be)
   replace hW := hW.only hN44 ne_bw_be
   refine Zk (args := #[.pointer (some ⟨bw, 0, none⟩), .int .i64 9, .int .i64 m.src, .bool true]) cf104 (send_b m.hn hW hH hI hO ne_bw_bh ne_bw_bi ne_bw_ig ap_A_bw ap_A_bh ap_A_bi ap_A_ig (by first | omega | (simp only [List.length_append, List.length_cons, List.length_nil, List.length_map, List.length_take]; omega)) 9 m.src) ?_
   rintro v w50 ⟨rfl, A45, ac46, hWn47, O48, mv49, hN51⟩
   have ap_A45_bw : Apart A45 bw := moved_apart mv49 ap_A_bw hW.lt
   have ap_A45_bh : Apart A45 bh := moved_apart mv49 ap_A_bh hH.lt
   have ap_A45_bi : Apart A45 bi := moved_apart mv49 ap_A_bi hI.lt.1
   have ap_A45_ig : Apart A45 ig := moved_apart mv49 ap_A_ig hI.lt.2
   replace hQ := (((hQ.new hN3).only hN8 (Apart.ne1 ap_Q_be)).new hN26).only hN44 (Apart.ne1 ap_Q_be)
   have ap2_A45_Q : Apart2 A45 Q := moved_apart2 mv49 ap2_Q_A.symm fun _ hg => hQ.lt hg
   have ap_A45_be : Apart A45 be := moved_apart mv49 ap_A_be hE.lt
   replace hF := (((hF.trNew hN3).loc hN8 (.inl (.inr (.inl rfl)))).trNew hN26).loc hN44 (.inl (.inr (.inl rfl)))
   have gA_A45 := gA_moved hF mv49 gA_A
   clear hW hO
   have hW := hWn47
   clear hWn47
   refine Znn ?_
   refine Zgm ?_
   replace B4 := B4.only hN51 (fun h => h.elim ne_bw_b1.symm ap_A_b1)
   refine ZE msgE ag35 (B4.rangeE msgE) ?_
   replace hE := hE.only hN51 (fun h => h.elim ne_bw_be.symm ap_A_be)
   refine Zk cf113 (busy_c hW hE ne_bw_be m 0 true) ?_
   rintro v w53 ⟨rfl, hEn52, hN54⟩
   replace hE := hEn52
   clear hEn52
   refine Znl ?_
   refine Zb ?_
   refine Zee rfl [] trivial ?_
   rw [begin_s3 hk hc9 (show ¬ 0 < (othersF (leaveF d m.src).sh m.src).length from by first | exact hc27 | (show ¬ 0 < (othersF d.sh m.src).length; omega))]
   replace hH := (hH.only hN51 (fun h => h.elim ne_bw_bh.symm ap_A_bh)).only hN54 ne_be_bh.symm
   replace hI := (hI.only hN51 (fun h => h.elim ne_bw_bi.symm ap_A_bi) (fun h => h.elim ne_bw_ig.symm ap_A_ig)).only hN54 ne_be_bi.symm ne_be_ig.symm
   replace hQ := (hQ.only hN51 (fun g hg => (fun h => h.elim ((Apart.ne1 ap_Q_bw) g hg) ((fun g h1 h2 => ap2_Q_A g h1 h2) g hg)))).only hN54 (Apart.ne1 ap_Q_be)
   replace hF := (hF.loc2 hN51 (.inl (.inl rfl)) gA_A).loc hN54 (.inl (.inr (.inl rfl)))
   replace hW := hW.only hN54 ne_bw_be
   replace O48 := O48.only hN54 (Apart.ne1 ap_A45_be)
   exact ⟨_, rfl, rfl, A45, ac46, ⟨hW, hE, hH, hI, hQ, O48, ⟨ne_bw_be, ne_bw_bh, ne_bw_bi, ne_bw_ig, ne_be_bh, ne_be_bi, ne_be_ig, ne_bh_bi, ne_bh_ig, ne_bi_ig, ap_Q_bw, ap_Q_be, ap_Q_bh, ap_Q_bi, ap_Q_ig, ap_A45_bw, ap_A45_be, ap_A45_bh, ap_A45_bi, ap_A45_ig, ap2_A45_Q.symm⟩⟩, wmv gA_A45 ap_A45_bw ap_A45_be ap_A45_ig, hF⟩
theorem getm_c {w : World} {bw be bh bi ig cap r : Nat} {d : Ent} {Q : Option Addr} {qc : Nat} {A : Option Addr} {ac : Nat} {out : List Msg} {bs : List UInt8} (m : Msg) (R : WorkR w bw be bh bi ig cap r m.line d Q qc A ac out bs) (hlen : out.length + 8 ≤ 1000000) (hsrc : 0 ≤ m.src ∧ m.src < 4) (hk : m.kind = 2) : Calls Try.prog 107 #[.pointer (some ⟨bw, 0, none⟩), .agg (msgE.arr m)] w (Ret fun v w' => v = .tuple #[] ∧ WRet w w' bw be bh bi ig cap r m.line Q qc A out (beginF bs d m).1 (beginF bs d m).2.1 (beginF bs d m).2.2) := by
 obtain ⟨hW, hE, hH, hI, hQ, hO, hS⟩ := R
 have ne_bw_be := hS.ne_bw_be
 have ne_bw_bh := hS.ne_bw_bh
 have ne_bw_bi := hS.ne_bw_bi
 have ne_bw_ig := hS.ne_bw_ig
 have ne_be_bh := hS.ne_be_bh
 have ne_be_bi := hS.ne_be_bi
 have ne_be_ig := hS.ne_be_ig
 have ne_bh_bi := hS.ne_bh_bi
 have ne_bh_ig := hS.ne_bh_ig
 have ne_bi_ig := hS.ne_bi_ig
 have ap_Q_bw := hS.ap_Q_bw
 have ap_Q_be := hS.ap_Q_be
 have ap_Q_bh := hS.ap_Q_bh
 have ap_Q_bi := hS.ap_Q_bi
 have ap_Q_ig := hS.ap_Q_ig
 have ap_A_bw := hS.ap_A_bw
 have ap_A_be := hS.ap_A_be
 have ap_A_bh := hS.ap_A_bh
 have ap_A_bi := hS.ap_A_bi
 have ap_A_ig := hS.ap_A_ig
 have ap2_Q_A := hS.ap2_Q_A
 have gA_A : ∀ g, inA A g → (g = bw ∨ g = be ∨ g = ig ∨ inA A g) ∨ w.heap.size ≤ g := fun g hg => .inl (.inr (.inr (.inr hg)))
 have hmn := m.hn
 have hF := Only.refl (fun k => k = bw ∨ k = be ∨ k = ig ∨ inA A k) w
 refine Zen 55 Try.func107 ?_
 refine Zsr ?_
 refine Znb (cs := msgE.arr m) fun b1 w2 hN3 B4 hb5 => ?_
 have ne_bw_b1 := nelt hW.lt hb5
 have ne_be_b1 := nelt hE.lt hb5
 have ap_A_b1 := hO.apart hb5
 refine Znn ?_
 refine Zsm ?_
 refine Zf fo35_1 ?_
 refine Zd (v := .int .i64 m.src) pl3 (B4.cell 1 rfl) ?_
 replace hW := hW.new hN3
 replace hE := hE.new hN3
 refine Zk cf112 (leave_c hW hE ne_bw_be m.src) ?_
 rintro v w7 ⟨rfl, hEn6, hN8⟩
 replace hE := hEn6
 clear hEn6
 refine Znq ?_
 refine Zsm ?_
 refine Zn ?_
 refine Zf fo176_1 ?_
 replace hW := hW.only hN8 ne_bw_be
 refine Zd pl144 (hW.cell 1 rfl) ?_
 refine Zn ?_
 refine Zf fo147_0 ?_
 refine Zd (v := .int .i64 ((leaveF d m.src).o)) pl3 (hE.cell 0 rfl) ?_
 refine Zv (.bool (decide (0 ≤ (leaveF d m.src).o))) (fun _ fr => x_geq rfl (fr.ev rfl) rfl rfl) ?_
 refine Znn ?_
 refine Zcd (fun hc9 => ?_) (fun hc9 => ?_)
 ·have hc9 := of_decide_eq_true hc9
  refine Zsm ?_
  refine Zm ?_
  refine Zn ?_
  refine Zf fo176_1 ?_
  refine Zd pl144 (hW.cell 1 rfl) ?_
  refine Zn ?_
  refine Zf fo147_0 ?_
  refine Zd (v := .int .i64 ((leaveF d m.src).o)) pl3 (hE.cell 0 rfl) ?_
  replace hH := (hH.new hN3).only hN8 ne_be_bh.symm
  replace hI := (hI.new hN3).only hN8 ne_be_bi.symm ne_be_ig.symm
  replace hO := (hO.new hN3).only hN8 (Apart.ne1 ap_A_be)
  refine Zk (args := #[.pointer (some ⟨bw, 0, none⟩), .int .i64 5, .int .i64 ((leaveF d m.src).o), .bool false]) cf104 (send_n m.hn hW hH hI hO ne_bw_bh ne_bw_bi ne_bw_ig ap_A_bw ap_A_bh ap_A_bi ap_A_ig (by first | omega | (simp only [List.length_append, List.length_cons, List.length_nil, List.length_map, List.length_take]; omega)) 5 ((leaveF d m.src).o)) ?_
  rintro v w15 ⟨rfl, A10, ac11, hWn12, O13, mv14, hN16⟩
  have ap_A10_bw : Apart A10 bw := moved_apart mv14 ap_A_bw hW.lt
  have ap_A10_bh : Apart A10 bh := moved_apart mv14 ap_A_bh hH.lt
  have ap_A10_bi : Apart A10 bi := moved_apart mv14 ap_A_bi hI.lt.1
  have ap_A10_ig : Apart A10 ig := moved_apart mv14 ap_A_ig hI.lt.2
  replace hQ := (hQ.new hN3).only hN8 (Apart.ne1 ap_Q_be)
  have ap2_A10_Q : Apart2 A10 Q := moved_apart2 mv14 ap2_Q_A.symm fun _ hg => hQ.lt hg
  have ap_A10_be : Apart A10 be := moved_apart mv14 ap_A_be hE.lt
  replace hF := (hF.trNew hN3).loc hN8 (.inl (.inr (.inl rfl)))
  have gA_A10 := gA_moved hF mv14 gA_A
  clear hW hO
  have hW := hWn12
  clear hWn12
  refine Znn ?_
  refine Zsm ?_
  replace B4 := (B4.only hN8 ne_be_b1.symm).only hN16 (fun h => h.elim ne_bw_b1.symm ap_A_b1)
  refine ZE msgE ag35 (B4.rangeE msgE) ?_
  replace hE := hE.only hN16 (fun h => h.elim ne_bw_be.symm ap_A_be)
  refine Zk cf113 (busy_c hW hE ne_bw_be m 1 false) ?_
  rintro v w18 ⟨rfl, hEn17, hN19⟩
  replace hE := hEn17
  clear hEn17
  refine Znn ?_
  refine Zrt ?_
  refine Zr1 ?_
  refine Zre rfl [] trivial ?_
  rw [begin_m1 hk hc9]
  replace hH := (hH.only hN16 (fun h => h.elim ne_bw_bh.symm ap_A_bh)).only hN19 ne_be_bh.symm
  replace hI := (hI.only hN16 (fun h => h.elim ne_bw_bi.symm ap_A_bi) (fun h => h.elim ne_bw_ig.symm ap_A_ig)).only hN19 ne_be_bi.symm ne_be_ig.symm
  replace hQ := (hQ.only hN16 (fun g hg => (fun h => h.elim ((Apart.ne1 ap_Q_bw) g hg) ((fun g h1 h2 => ap2_Q_A g h1 h2) g hg)))).only hN19 (Apart.ne1 ap_Q_be)
  replace hF := (hF.loc2 hN16 (.inl (.inl rfl)) gA_A).loc hN19 (.inl (.inr (.inl rfl)))
  replace hW := hW.only hN19 ne_bw_be
  replace O13 := O13.only hN19 (Apart.ne1 ap_A10_be)
  exact ⟨_, rfl, rfl, A10, ac11, ⟨hW, hE, hH, hI, hQ, O13, ⟨ne_bw_be, ne_bw_bh, ne_bw_bi, ne_bw_ig, ne_be_bh, ne_be_bi, ne_be_ig, ne_bh_bi, ne_bh_ig, ne_bi_ig, ap_Q_bw, ap_Q_be, ap_Q_bh, ap_Q_bi, ap_Q_ig, ap_A10_bw, ap_A10_be, ap_A10_bh, ap_A10_bi, ap_A10_ig, ap2_A10_Q.symm⟩⟩, wmv gA_A10 ap_A10_bw ap_A10_be ap_A10_ig, hF⟩
 ·have hc9 := of_decide_eq_false hc9
  refine Zkn ?_
  refine Zsm ?_
  refine Zf fo35_1 ?_
  replace B4 := B4.only hN8 ne_be_b1.symm
  refine Zd (v := .int .i64 m.src) pl3 (B4.cell 1 rfl) ?_
  refine Zk cf114 (others_c hW hE ne_bw_be m.src) ?_
  rintro v w25 ⟨A20, c21, rfl, OL22, hA23, hN26⟩
  have ap_A20_bw : Apart A20 bw := new_apart hA23 hW.lt
  replace hO := (hO.new hN3).only hN8 (Apart.ne1 ap_A_be)
  have ap2_A_A20 : Apart2 A A20 := (new_apart2 hA23 fun _ hg => hO.lt hg).symm
  have hol24 : (othersF d.sh m.src).length ≤ 4 := othK_len _ _ 4
  refine Zaq ?_
  refine Zsm ?_
  refine Zv (.int .i64 (((othersF d.sh m.src).length : Nat) : Int)) (fun _ fr => x_len Try.underlying123 rfl (fr.ev rfl)) ?_
  refine Zm ?_
  refine Znn ?_
  refine Zbl ?_
  intro a fr
  replace hH := ((hH.new hN3).only hN8 ne_be_bh.symm).new hN26
  replace hI := ((hI.new hN3).only hN8 ne_be_bi.symm ne_be_ig.symm).new hN26
  replace hQ := ((hQ.new hN3).only hN8 (Apart.ne1 ap_Q_be)).new hN26
  replace hF := ((hF.trNew hN3).loc hN8 (.inl (.inr (.inl rfl)))).trNew hN26
  replace hW := hW.new hN26
  replace hO := hO.new hN26
  replace B4 := B4.new hN26
  replace hE := hE.new hN26
  refine fx_loop (fun nM a wL => ∃ i : Nat, ∃ A1 : Option Addr, ∃ c1 : Nat, nM = (othersF d.sh m.src).length - i ∧ Fr (55, []) [(0, .pointer (some ⟨bw, 0, none⟩)), (3, .pointer (some ⟨b1, 0, none⟩)), (4, .slice A20 ((othersF d.sh m.src).length) c21), (35, .slice A20 ((othersF d.sh m.src).length) c21), (36, .int .i64 (((othersF d.sh m.src).length : Nat) : Int)), (37, .int .i64 ((i : Nat) : Int))] a ∧ Only (fun k => k = bw ∨ k = be ∨ k = ig ∨ inA A k) w wL ∧ Blk wL bw 176 #[.slice A1 ((out ++ ((othersF d.sh m.src).take i).map (sendM m 6)).length) c1, .pointer (some ⟨be, 0, none⟩), .pointer (some ⟨bh, 0, none⟩), .int .u32 m.line] ∧ Blk wL be 147 (entA (leaveF d m.src) (.slice Q d.q.length qc)) ∧ Blk wL bh 140 #[.pointer (some ⟨bi, 0, none⟩), .map (some r)] ∧ Img 0 wL bi ig cap bs ∧ View msgE wL Q qc d.q ∧ Own msgE wL A1 c1 (out ++ ((othersF d.sh m.src).take i).map (sendM m 6)) ∧ Blk wL b1 35 (msgE.arr m) ∧ Own intE wL A20 c21 (othersF d.sh m.src) ∧ i ≤ (othersF d.sh m.src).length ∧ (Apart A1 bw) ∧ (Apart A1 be) ∧ (Apart A1 bh) ∧ (Apart A1 bi) ∧ (Apart A1 ig) ∧ (Apart2 Q A1) ∧ (Apart A1 b1) ∧ (Apart2 A1 A20) ∧ (∀ g, inA A1 g → (fun k => k = bw ∨ k = be ∨ k = ig ∨ inA A k) g ∨ w.heap.size ≤ g)) (n0 := _) ⟨0, A, ac, rfl, fr.sub ⟨rfl, rfl, rfl, rfl, rfl, rfl, trivial⟩, hF, (by rw [List.take_zero, List.map_nil, List.append_nil]; exact hW), hE, hH, hI, hQ, (by rw [List.take_zero, List.map_nil, List.append_nil]; exact hO), B4, OL22, by omega, ap_A_bw, ap_A_be, ap_A_bh, ap_A_bi, ap_A_ig, ap2_Q_A, ap_A_b1, ap2_A_A20, gA_A⟩ ?_
  clear fr a
  rintro n28 a w27 ⟨i, A1, c1, rfl, fr, hF, hW, hE, hH, hI, hQ, O1, B4, OL22, hp29, ap_A1_bw, ap_A1_be, ap_A1_bh, ap_A1_bi, ap_A1_ig, ap2_Q_A1, ap_A1_b1, ap2_A1_A20, gA_A1⟩
  revert a
  have hLT : (((othersF d.sh m.src).take i).map (sendM m 6)).length ≤ 4 := by rw [List.length_map, List.length_take]; omega
  refine Zsr ?_
  refine Zv (.bool (decide (((i : Nat) : Int) < (((othersF d.sh m.src).length : Nat) : Int)))) (fun _ fr => x_lss rfl (fr.ev rfl) (fr.ev rfl) rfl) ?_
  refine Znq ?_
  refine Zcd (fun hc30 => ?_) (fun hc30 => ?_)
  ·have hc30 := of_decide_eq_true hc30
   refine Zkn ?_
   refine Zsq ?_
   refine Zbl ?_
   refine Zsr ?_
   obtain ⟨g31, o32, hA33⟩ := (OL22.view).some_ (by first | omega | decide)
   refine Zv (.pointer (some ⟨g31, o32 + i * 1, none⟩)) (fun _ fr => x_indexV Try.underlying123 sz3 rfl (fr.ev rfl) hA33 (fr.ev rfl) (by first | omega | decide) rfl) ?_
   refine Zd (v := .int .i64 ((othersF d.sh m.src).getD i 0)) pl3 (range_cell ((OL22.view).elem hA33 i 0 (by first | omega | decide)) 0 rfl rfl) ?_
   refine Zan ?_
   refine Zgm ?_
   refine Zm ?_
   refine Zk (args := #[.pointer (some ⟨bw, 0, none⟩), .int .i64 6, .int .i64 ((othersF d.sh m.src).getD i 0), .bool false]) cf104 (send_n m.hn hW hH hI O1 ne_bw_bh ne_bw_bi ne_bw_ig ap_A1_bw ap_A1_bh ap_A1_bi ap_A1_ig (by first | omega | (simp only [List.length_append, List.length_cons, List.length_nil, List.length_map, List.length_take]; omega)) 6 ((othersF d.sh m.src).getD i 0)) ?_
   rintro v w39 ⟨rfl, A34, ac35, hWn36, O37, mv38, hN40⟩
   have ap_A34_bw : Apart A34 bw := moved_apart mv38 ap_A1_bw hW.lt
   have ap_A34_be : Apart A34 be := moved_apart mv38 ap_A1_be hE.lt
   have ap_A34_bh : Apart A34 bh := moved_apart mv38 ap_A1_bh hH.lt
   have ap_A34_bi : Apart A34 bi := moved_apart mv38 ap_A1_bi hI.lt.1
   have ap_A34_ig : Apart A34 ig := moved_apart mv38 ap_A1_ig hI.lt.2
   have ap2_A34_Q : Apart2 A34 Q := moved_apart2 mv38 ap2_Q_A1.symm fun _ hg => hQ.lt hg
   have ap_A34_b1 : Apart A34 b1 := moved_apart mv38 ap_A1_b1 B4.lt
   have ap2_A34_A20 : Apart2 A34 A20 := moved_apart2 mv38 ap2_A1_A20 fun _ hg => OL22.lt hg
   have gA_A34 := gA_moved hF mv38 gA_A1
   clear hW O1
   have hW := hWn36
   clear hWn36
   refine Znl ?_
   refine Zbn ?_
   refine Zrg ?_
   refine Zv _ (fun _ fr => x_add rfl (fr.ev rfl) rfl (i64w (r := ((i + 1 : Nat) : Int)) (by omega) (by omega))) ?_
   refine Zm ?_
   intro a fr
   refine wpList_nil ?_
   refine fx_next ?_
   replace hE := hE.only hN40 (fun h => h.elim ne_bw_be.symm ap_A1_be)
   replace hH := hH.only hN40 (fun h => h.elim ne_bw_bh.symm ap_A1_bh)
   replace hI := hI.only hN40 (fun h => h.elim ne_bw_bi.symm ap_A1_bi) (fun h => h.elim ne_bw_ig.symm ap_A1_ig)
   replace hQ := hQ.only hN40 (fun g hg => (fun h => h.elim ((Apart.ne1 ap_Q_bw) g hg) ((fun g h1 h2 => ap2_Q_A1 g h1 h2) g hg)))
   replace B4 := B4.only hN40 (fun h => h.elim ne_bw_b1.symm ap_A1_b1)
   replace OL22 := OL22.only hN40 (fun g hg => (fun h => h.elim ((Apart.ne1 ap_A20_bw) g hg) ((fun g h1 h2 => ap2_A1_A20.symm g h1 h2) g hg)))
   replace hF := hF.loc2 hN40 (.inl (.inl rfl)) gA_A1
   exact ⟨_, by omega, (i + 1), A34, ac35, rfl, fr.sub ⟨rfl, rfl, rfl, rfl, rfl, rfl, trivial⟩, hF, (by rw [take_map_sn (by omega)]; exact hW), hE, hH, hI, hQ, (by rw [take_map_sn (by omega)]; exact O37), B4, OL22, by omega, ap_A34_bw, ap_A34_be, ap_A34_bh, ap_A34_bi, ap_A34_ig, ap2_A34_Q.symm, ap_A34_b1, ap2_A34_A20, gA_A34⟩
  ·have hc30 := of_decide_eq_false hc30
   refine Zex ?_
   refine Zxt ?_
   refine Zxt ?_
   refine Zxx ?_
   refine Znx ?_
   refine Zsq ?_
   rw [List.take_of_length_le (by omega)] at hW O1
   have hLM : ((othersF d.sh m.src).map (sendM m 6)).length ≤ 4 := by rw [List.length_map]; omega
   refine Zgm ?_
   refine ZE msgE ag35 (B4.rangeE msgE) ?_
   refine Zm ?_
   refine Zv (.int .i64 (((othersF d.sh m.src).length : Nat) : Int)) (fun _ fr => x_len Try.underlying123 rfl (fr.ev rfl)) ?_
   refine Zk cf113 (busy_c hW hE ne_bw_be m (((othersF d.sh m.src).length : Nat) : Int) false) ?_
   rintro v w42 ⟨rfl, hEn41, hN43⟩
   replace hE := hEn41
   clear hEn41
   refine Znn ?_
   refine Zsm ?_
   refine Zv (.int .i64 (((othersF d.sh m.src).length : Nat) : Int)) (fun _ fr => x_len Try.underlying123 rfl (fr.ev rfl)) ?_
   refine Zv (.bool (decide ((((othersF d.sh m.src).length : Nat) : Int) = 0))) (fun _ fr => x_eql rfl (fr.ev rfl) rfl rfl) ?_
   refine Znn ?_
   refine Zcd (fun hc44 => ?_) (fun hc44 => ?_)
   ·have hc44 := of_decide_eq_true hc44
    refine Zgm ?_
    replace hH := hH.only hN43 ne_be_bh.symm
    replace hI := hI.only hN43 ne_be_bi.symm ne_be_ig.symm
    replace hQ := hQ.only hN43 (Apart.ne1 ap_Q_be)
    replace hW := hW.only hN43 ne_bw_be
    replace O1 := O1.only hN43 (Apart.ne1 ap_A1_be)
    refine Zk (args := #[.pointer (some ⟨bw, 0, none⟩)]) cf102 (hwrite_c ⟨hW, hE, hH, hI, hQ, O1, ⟨ne_bw_be, ne_bw_bh, ne_bw_bi, ne_bw_ig, ne_be_bh, ne_be_bi, ne_be_ig, ne_bh_bi, ne_bh_ig, ne_bi_ig, ap_Q_bw, ap_Q_be, ap_Q_bh, ap_Q_bi, ap_Q_ig, ap_A1_bw, ap_A1_be, ap_A1_bh, ap_A1_bi, ap_A1_ig, ap2_Q_A1⟩⟩ m.hn (by first | omega | (simp only [List.length_append, List.length_cons, List.length_nil, List.length_map, List.length_take]; omega))) ?_
    rintro v w50 ⟨rfl, A45, ac46, R47, mv48, hN51⟩
    replace hF := hF.loc hN43 (.inl (.inr (.inl rfl)))
    have gA_A45 := gA_moved hF mv48 gA_A1
    clear hW hE hH hI hQ O1
    obtain ⟨hW, hE, hH, hI, hQ, O49, hS⟩ := R47
    have ap_A45_bw := hS.ap_A_bw
    have ap_A45_be := hS.ap_A_be
    have ap_A45_bh := hS.ap_A_bh
    have ap_A45_bi := hS.ap_A_bi
    have ap_A45_ig := hS.ap_A_ig
    have ap2_Q_A45 := hS.ap2_Q_A
    refine Znl ?_
    refine Zee rfl [] trivial ?_
    rw [begin_m3 hk hc9 (show (othersF (leaveF d m.src).sh m.src).length = 0 from by first | exact hc44 | (show (othersF d.sh m.src).length = 0; omega))]
    have hL0 : othersF d.sh m.src = [] := List.eq_nil_of_length_eq_zero (by omega)
    simp only [hL0, List.map_nil, List.append_nil, List.length_nil, Int.natCast_zero] at hW hE O49
    replace hF := hF.locS hN51 (fun i => (fun h => h.elim (fun e => by rw [e]; exact (.inl (.inl rfl))) (fun h => h.elim (fun e => by rw [e]; exact (.inl (.inr (.inl rfl)))) (fun h => h.elim (fun e => by rw [e]; exact (.inl (.inr (.inr (.inl rfl))))) (fun h => gA_A1 i h)))))
    exact ⟨_, rfl, rfl, A45, ac46, ⟨hW, hE, hH, hI, hQ, O49, ⟨ne_bw_be, ne_bw_bh, ne_bw_bi, ne_bw_ig, ne_be_bh, ne_be_bi, ne_be_ig, ne_bh_bi, ne_bh_ig, ne_bi_ig, ap_Q_bw, ap_Q_be, ap_Q_bh, ap_Q_bi, ap_Q_ig, ap_A45_bw, ap_A45_be, ap_A45_bh, ap_A45_bi, ap_A45_ig, ap2_Q_A45⟩⟩, wmv gA_A45 ap_A45_bw ap_A45_be ap_A45_ig, hF⟩
   ·have hc44 := of_decide_eq_false hc44
    refine Zsk ?_
    refine Zee rfl [] trivial ?_
    rw [begin_m2 hk hc9 (show ¬ (othersF (leaveF d m.src).sh m.src).length = 0 from by first | exact hc44 | (show ¬ (othersF d.sh m.src).length = 0; omega))]
    replace hH := hH.only hN43 ne_be_bh.symm
    replace hI := hI.only hN43 ne_be_bi.symm ne_be_ig.symm
    replace hQ := hQ.only hN43 (Apart.ne1 ap_Q_be)
    replace hW := hW.only hN43 ne_bw_be
    replace O1 := O1.only hN43 (Apart.ne1 ap_A1_be)
    replace hF := hF.loc hN43 (.inl (.inr (.inl rfl)))
    exact ⟨_, rfl, rfl, A1, c1, ⟨hW, hE, hH, hI, hQ, O1, ⟨ne_bw_be, ne_bw_bh, ne_bw_bi, ne_bw_ig, ne_be_bh, ne_be_bi, ne_be_ig, ne_bh_bi, ne_bh_ig, ne_bi_ig, ap_Q_bw, ap_Q_be, ap_Q_bh, ap_Q_bi, ap_Q_ig, ap_A1_bw, ap_A1_be, ap_A1_bh, ap_A1_bi, ap_A1_ig, ap2_Q_A1⟩⟩, wmv gA_A1 ap_A1_bw ap_A1_be ap_A1_ig, hF⟩
theorem hput_c {w : World} {bw be bh bi ig cap r : Nat} {d : Ent} {Q : Option Addr} {qc : Nat} {A : Option Addr} {ac : Nat} {out : List Msg} {bs : List UInt8} (m : Msg) (R : WorkR w bw be bh bi ig cap r m.line d Q qc A ac out bs) (hlen : out.length + 8 ≤ 1000000) (hsrc : 0 ≤ m.src ∧ m.src < 4) (hk : m.kind = 3) : Calls Try.prog 108 #[.pointer (some ⟨bw, 0, none⟩), .agg (msgE.arr m)] w (Ret fun v w' => v = .tuple #[] ∧ WRet w w' bw be bh bi ig cap r m.line Q qc A out (beginF bs d m).1 (beginF bs d m).2.1 (beginF bs d m).2.2) := by
 obtain ⟨hW, hE, hH, hI, hQ, hO, hS⟩ := R
 have ne_bw_be := hS.ne_bw_be
 have ne_bw_bh := hS.ne_bw_bh
 have ne_bw_bi := hS.ne_bw_bi
 have ne_bw_ig := hS.ne_bw_ig
 have ne_be_bh := hS.ne_be_bh
 have ne_be_bi := hS.ne_be_bi
 have ne_be_ig := hS.ne_be_ig
 have ne_bh_bi := hS.ne_bh_bi
 have ne_bh_ig := hS.ne_bh_ig
 have ne_bi_ig := hS.ne_bi_ig
 have ap_Q_bw := hS.ap_Q_bw
 have ap_Q_be := hS.ap_Q_be
 have ap_Q_bh := hS.ap_Q_bh
 have ap_Q_bi := hS.ap_Q_bi
 have ap_Q_ig := hS.ap_Q_ig
 have ap_A_bw := hS.ap_A_bw
 have ap_A_be := hS.ap_A_be
 have ap_A_bh := hS.ap_A_bh
 have ap_A_bi := hS.ap_A_bi
 have ap_A_ig := hS.ap_A_ig
 have ap2_Q_A := hS.ap2_Q_A
 have gA_A : ∀ g, inA A g → (g = bw ∨ g = be ∨ g = ig ∨ inA A g) ∨ w.heap.size ≤ g := fun g hg => .inl (.inr (.inr (.inr hg)))
 have hmn := m.hn
 have hF := Only.refl (fun k => k = bw ∨ k = be ∨ k = ig ∨ inA A k) w
 refine Zen 38 Try.func108 ?_
 refine Zsr ?_
 refine Znb (cs := msgE.arr m) fun b1 w2 hN3 B4 hb5 => ?_
 have ne_be_b1 := nelt hE.lt hb5
 have ne_ig_b1 := nelt hI.lt.2 hb5
 refine Znq ?_
 refine Zsq ?_
 refine Zhd (n := 10) (fun w => Blk w bw 176 #[.slice A out.length ac, .pointer (some ⟨be, 0, none⟩), .pointer (some ⟨bh, 0, none⟩), .int .u32 m.line] ∧ Blk w be 147 (entA d (.slice Q d.q.length qc)) ∧ Blk w b1 35 (msgE.arr m) ∧ True) ?_
 intro w6 hN7
 replace hW := (hW.new hN3).new hN7
 replace hE := (hE.new hN3).new hN7
 replace B4 := B4.new hN7
 have hS9 := And.intro hW (And.intro hE (And.intro B4 trivial))
 refine Zhm 0 hS9 ?_
 refine Zhc 1 hS9 ?_
 refine Zhf 2 fo176_1 hS9 ?_
 refine Zhl 3 pl144 hS9 (fun _ ⟨hW, _⟩ => (hW.cell 1 rfl)) ?_
 refine Zhc 4 hS9 ?_
 refine Zhf 5 fo147_0 hS9 ?_
 refine Zhl (v := .int .i64 d.o) 6 pl3 hS9 (fun _ ⟨_, hE, _⟩ => (hE.cell 0 rfl)) ?_
 refine Zhf 7 fo35_1 hS9 ?_
 refine Zhl (v := .int .i64 m.src) 8 pl3 hS9 (fun _ ⟨_, _, B4, _⟩ => (B4.cell 1 rfl)) ?_
 refine Zht 9 rfl _ hS9 (fun _ fr _ _ => x_eql rfl (fr.ev rfl) (fr.ev rfl) rfl) ?_
 refine Zhn ?_
 refine Znx ?_
 refine Zcd (fun hc8 => ?_) (fun hc8 => ?_)
 ·have hc8 := of_decide_eq_true hc8
  refine Zsq ?_
  refine Zhd (n := 14) (fun w => Blk w bw 176 #[.slice A out.length ac, .pointer (some ⟨be, 0, none⟩), .pointer (some ⟨bh, 0, none⟩), .int .u32 m.line] ∧ Blk w bh 140 #[.pointer (some ⟨bi, 0, none⟩), .map (some r)] ∧ Blk w b1 35 (msgE.arr m) ∧ True) ?_
  intro w9 hN10
  replace hH := ((hH.new hN3).new hN7).new hN10
  replace hW := hW.new hN10
  replace B4 := B4.new hN10
  have hS9 := And.intro hW (And.intro hH (And.intro B4 trivial))
  refine Zhm 0 hS9 ?_
  refine Zhc 1 hS9 ?_
  refine Zhf 2 fo176_2 hS9 ?_
  refine Zhl 3 pl90 hS9 (fun _ ⟨hW, _⟩ => (hW.cell 2 rfl)) ?_
  refine Zhc 4 hS9 ?_
  refine Zhf 5 fo140_0 hS9 ?_
  refine Zhl 6 pl87 hS9 (fun _ ⟨_, hH, _⟩ => (hH.cell 0 rfl)) ?_
  refine Zhm 7 hS9 ?_
  refine Zhc 8 hS9 ?_
  refine Zhf 9 fo176_3 hS9 ?_
  refine Zhl (v := .int .u32 m.line) 10 pl32 hS9 (fun _ ⟨hW, _⟩ => (hW.cell 3 rfl)) ?_
  refine Zhf 11 fo35_4 hS9 ?_
  refine ZhE (p := m.bs) 12 bsE ag22 hS9 (fun _ ⟨_, _, B4, _⟩ => (B4.part (msg_bs _))) ?_
  refine Zh1 13 ?_
  replace hI := ((hI.new hN3).new hN7).new hN10
  refine Zk (args := #[.pointer (some ⟨bi, 0, none⟩), .int .u32 m.line, .agg (bsE.arr m.bs)]) cf101 (hset_c m.line m.bs (by omega) hI) ?_
  rintro v w12 ⟨rfl, hIn11, hN13⟩
  replace hI := hIn11
  clear hIn11
  replace hW := hW.only hN13 ne_bw_ig
  replace hH := hH.only hN13 ne_bh_ig
  replace B4 := B4.only hN13 ne_ig_b1.symm
  refine Zhb ⟨hW, hH, B4, trivial⟩ ?_
  refine Zhn ?_
  refine Znx ?_
  refine Zgm ?_
  refine Zn ?_
  refine Zf fo176_1 ?_
  refine Zd pl144 (hW.cell 1 rfl) ?_
  refine Zn ?_
  refine Zf fo147_0 ?_
  replace hE := (hE.new hN10).only hN13 ne_be_ig
  refine Zs1 (cs' := entA ({ d with o := (-1) }) (.slice Q d.q.length qc)) sz3 hE (show 0 < 11 by decide) rfl fun w14 hO15 hE => ?_
  refine Znn ?_
  refine Zgm ?_
  refine Zf fo35_1 ?_
  replace B4 := B4.only hO15 ne_be_b1.symm
  refine Zd (v := .int .i64 m.src) pl3 (B4.cell 1 rfl) ?_
  replace hO := ((((hO.new hN3).new hN7).new hN10).only hN13 (Apart.ne1 ap_A_ig)).only hO15 (Apart.ne1 ap_A_be)
  replace hW := hW.only hO15 ne_bw_be
  replace hH := hH.only hO15 ne_be_bh.symm
  replace hI := hI.only hO15 ne_be_bi.symm ne_be_ig.symm
  refine Zk (args := #[.pointer (some ⟨bw, 0, none⟩), .int .i64 7, .int .i64 m.src, .bool false]) cf104 (send_n m.hn hW hH hI hO ne_bw_bh ne_bw_bi ne_bw_ig ap_A_bw ap_A_bh ap_A_bi ap_A_ig (by first | omega | (simp only [List.length_append, List.length_cons, List.length_nil, List.length_map, List.length_take]; omega)) 7 m.src) ?_
  rintro v w21 ⟨rfl, A16, ac17, hWn18, O19, mv20, hN22⟩
  have ap_A16_bw : Apart A16 bw := moved_apart mv20 ap_A_bw hW.lt
  have ap_A16_bh : Apart A16 bh := moved_apart mv20 ap_A_bh hH.lt
  replace hQ := ((((hQ.new hN3).new hN7).new hN10).only hN13 (Apart.ne1 ap_Q_ig)).only hO15 (Apart.ne1 ap_Q_be)
  have ap2_A16_Q : Apart2 A16 Q := moved_apart2 mv20 ap2_Q_A.symm fun _ hg => hQ.lt hg
  have ap_A16_bi : Apart A16 bi := moved_apart mv20 ap_A_bi hI.lt.1
  have ap_A16_ig : Apart A16 ig := moved_apart mv20 ap_A_ig hI.lt.2
  have ap_A16_be : Apart A16 be := moved_apart mv20 ap_A_be hE.lt
  replace hF := ((((hF.trNew hN3).trNew hN7).trNew hN10).loc hN13 (.inl (.inr (.inr (.inl rfl))))).loc hO15 (.inl (.inr (.inl rfl)))
  have gA_A16 := gA_moved hF mv20 gA_A
  clear hW hO
  have hW := hWn18
  clear hWn18
  refine Znl ?_
  refine Zee rfl [] trivial ?_
  rw [begin_put hk]
  rw [if_pos hc8, leave_eq hc8]
  replace hH := hH.only hN22 (fun h => h.elim ne_bw_bh.symm ap_A_bh)
  replace hQ := hQ.only hN22 (fun g hg => (fun h => h.elim ((Apart.ne1 ap_Q_bw) g hg) ((fun g h1 h2 => ap2_Q_A g h1 h2) g hg)))
  replace hI := hI.only hN22 (fun h => h.elim ne_bw_bi.symm ap_A_bi) (fun h => h.elim ne_bw_ig.symm ap_A_ig)
  replace hE := hE.only hN22 (fun h => h.elim ne_bw_be.symm ap_A_be)
  replace hF := hF.loc2 hN22 (.inl (.inl rfl)) gA_A
  exact ⟨_, rfl, rfl, A16, ac17, ⟨hW, hE, hH, hI, hQ, O19, ⟨ne_bw_be, ne_bw_bh, ne_bw_bi, ne_bw_ig, ne_be_bh, ne_be_bi, ne_be_ig, ne_bh_bi, ne_bh_ig, ne_bi_ig, ap_Q_bw, ap_Q_be, ap_Q_bh, ap_Q_bi, ap_Q_ig, ap_A16_bw, ap_A16_be, ap_A16_bh, ap_A16_bi, ap_A16_ig, ap2_A16_Q.symm⟩⟩, wmv gA_A16 ap_A16_bw ap_A16_be ap_A16_ig, hF⟩
 ·have hc8 := of_decide_eq_false hc8
  refine Zkn ?_
  refine Zgm ?_
  refine Zf fo35_1 ?_
  refine Zd (v := .int .i64 m.src) pl3 (B4.cell 1 rfl) ?_
  replace hH := (hH.new hN3).new hN7
  replace hI := (hI.new hN3).new hN7
  replace hO := (hO.new hN3).new hN7
  refine Zk (args := #[.pointer (some ⟨bw, 0, none⟩), .int .i64 7, .int .i64 m.src, .bool false]) cf104 (send_n m.hn hW hH hI hO ne_bw_bh ne_bw_bi ne_bw_ig ap_A_bw ap_A_bh ap_A_bi ap_A_ig (by first | omega | (simp only [List.length_append, List.length_cons, List.length_nil, List.length_map, List.length_take]; omega)) 7 m.src) ?_
  rintro v w28 ⟨rfl, A23, ac24, hWn25, O26, mv27, hN29⟩
  have ap_A23_bw : Apart A23 bw := moved_apart mv27 ap_A_bw hW.lt
  have ap_A23_be : Apart A23 be := moved_apart mv27 ap_A_be hE.lt
  have ap_A23_bh : Apart A23 bh := moved_apart mv27 ap_A_bh hH.lt
  have ap_A23_bi : Apart A23 bi := moved_apart mv27 ap_A_bi hI.lt.1
  have ap_A23_ig : Apart A23 ig := moved_apart mv27 ap_A_ig hI.lt.2
  replace hQ := (hQ.new hN3).new hN7
  have ap2_A23_Q : Apart2 A23 Q := moved_apart2 mv27 ap2_Q_A.symm fun _ hg => hQ.lt hg
  replace hF := (hF.trNew hN3).trNew hN7
  have gA_A23 := gA_moved hF mv27 gA_A
  clear hW hO
  have hW := hWn25
  clear hWn25
  refine Znl ?_
  refine Zee rfl [] trivial ?_
  rw [begin_put hk]
  rw [if_neg hc8, leave_ne hc8]
  replace hE := hE.only hN29 (fun h => h.elim ne_bw_be.symm ap_A_be)
  replace hH := hH.only hN29 (fun h => h.elim ne_bw_bh.symm ap_A_bh)
  replace hI := hI.only hN29 (fun h => h.elim ne_bw_bi.symm ap_A_bi) (fun h => h.elim ne_bw_ig.symm ap_A_ig)
  replace hQ := hQ.only hN29 (fun g hg => (fun h => h.elim ((Apart.ne1 ap_Q_bw) g hg) ((fun g h1 h2 => ap2_Q_A g h1 h2) g hg)))
  replace hF := hF.loc2 hN29 (.inl (.inl rfl)) gA_A
  exact ⟨_, rfl, rfl, A23, ac24, ⟨hW, hE, hH, hI, hQ, O26, ⟨ne_bw_be, ne_bw_bh, ne_bw_bi, ne_bw_ig, ne_be_bh, ne_be_bi, ne_be_ig, ne_bh_bi, ne_bh_ig, ne_bi_ig, ap_Q_bw, ap_Q_be, ap_Q_bh, ap_Q_bi, ap_Q_ig, ap_A23_bw, ap_A23_be, ap_A23_bh, ap_A23_bi, ap_A23_ig, ap2_A23_Q.symm⟩⟩, wmv gA_A23 ap_A23_bw ap_A23_be ap_A23_ig, hF⟩
end Go.Proofs.Ytflnlmibkbojcaa
namespace Go.Proofs.Ytflnlmibkbojcaa
open Go.RowKit
theorem begin_1 {w : World} {bw be bh bi ig cap r : Nat} {d : Ent} {Q : Option Addr} {qc : Nat} {A : Option Addr} {ac : Nat} {out : List Msg} {bs : List UInt8} (m : Msg) (R : WorkR w bw be bh bi ig cap r m.line d Q qc A ac out bs) (hlen : out.length + 8 ≤ 1000000) (hsrc : 0 ≤ m.src ∧ m.src < 4) (hk : m.kind = 1) : Calls Try.prog 99 #[.pointer (some ⟨bw, 0, none⟩), .agg (msgE.arr m)] w (Ret fun v w' => v = .tuple #[] ∧ WRet w w' bw be bh bi ig cap r m.line Q qc A out (beginF bs d m).1 (beginF bs d m).2.1 (beginF bs d m).2.2) := by
 obtain ⟨hW, hE, hH, hI, hQ, hO, hS⟩ := R
 have ne_bw_be := hS.ne_bw_be
 have ne_bw_bh := hS.ne_bw_bh
 have ne_bw_bi := hS.ne_bw_bi
 have ne_bw_ig := hS.ne_bw_ig
 have ne_be_bh := hS.ne_be_bh
 have ne_be_bi := hS.ne_be_bi
 have ne_be_ig := hS.ne_be_ig
 have ne_bh_bi := hS.ne_bh_bi
 have ne_bh_ig := hS.ne_bh_ig
 have ne_bi_ig := hS.ne_bi_ig
 have ap_Q_bw := hS.ap_Q_bw
 have ap_Q_be := hS.ap_Q_be
 have ap_Q_bh := hS.ap_Q_bh
 have ap_Q_bi := hS.ap_Q_bi
 have ap_Q_ig := hS.ap_Q_ig
 have ap_A_bw := hS.ap_A_bw
 have ap_A_be := hS.ap_A_be
 have ap_A_bh := hS.ap_A_bh
 have ap_A_bi := hS.ap_A_bi
 have ap_A_ig := hS.ap_A_ig
 have ap2_Q_A := hS.ap2_Q_A
 have gA_A : ∀ g, inA A g → (g = bw ∨ g = be ∨ g = ig ∨ inA A g) ∨ w.heap.size ≤ g := fun g hg => .inl (.inr (.inr (.inr hg)))
 have hmn := m.hn
 have hF := Only.refl (fun k => k = bw ∨ k = be ∨ k = ig ∨ inA A k) w
 refine Zen 17 Try.func99 ?_
 refine Zsr ?_
 refine Znb (cs := msgE.arr m) fun b1 w2 hN3 B4 hb5 => ?_
 refine Znn ?_
 refine Zrg ?_
 intro a fr
 refine fx_makeMap fr rfl rfl rfl (by first | decide | simp) ?_
 clear fr a
 intro r6 w7 hN8 M9 hb10
 replace hW := hW.new hN3
 have ne_bw_r6 := nelt hW.lt hb10
 replace hE := hE.new hN3
 have ne_be_r6 := nelt hE.lt hb10
 replace hH := hH.new hN3
 have ne_bh_r6 := nelt hH.lt hb10
 replace hI := hI.new hN3
 have ne_bi_r6 := nelt hI.lt.1 hb10
 have ne_ig_r6 := nelt hI.lt.2 hb10
 replace hQ := hQ.new hN3
 have ap_Q_r6 := hQ.apart hb10
 replace hO := hO.new hN3
 have ap_A_r6 := hO.apart hb10
 have ne_b1_r6 := nelt B4.lt hb10
 replace hF := hF.trNew hN3
 have g_r6 := hF.sz hb10
 refine Zm ?_
 refine Zv _ (fun _ fr => x_makeBound rfl (fr.ev rfl)) ?_
 intro a fr
 refine fx_insert (es' := #[⟨.int .i64 1, .func (.func 106) #[.pointer (some ⟨bw, 0, none⟩)] #[], 0⟩]) Try.underlying178 Try.underlying33 rfl rfl rfl (fr.ev rfl) rfl (fr.ev rfl) M9 rfl rfl fun w11 hO12 hBq => ?_
 revert a
 replace M9 := hBq
 clear hBq
 refine Zm ?_
 refine Zv _ (fun _ fr => x_makeBound rfl (fr.ev rfl)) ?_
 intro a fr
 refine fx_insert (es' := #[⟨.int .i64 1, .func (.func 106) #[.pointer (some ⟨bw, 0, none⟩)] #[], 0⟩, ⟨.int .i64 2, .func (.func 107) #[.pointer (some ⟨bw, 0, none⟩)] #[], 1⟩]) Try.underlying178 Try.underlying33 rfl rfl rfl (fr.ev rfl) rfl (fr.ev rfl) M9 rfl rfl fun w13 hO14 hBq => ?_
 revert a
 replace M9 := hBq
 clear hBq
 refine Zm ?_
 refine Zv _ (fun _ fr => x_makeBound rfl (fr.ev rfl)) ?_
 intro a fr
 refine fx_insert (es' := #[⟨.int .i64 1, .func (.func 106) #[.pointer (some ⟨bw, 0, none⟩)] #[], 0⟩, ⟨.int .i64 2, .func (.func 107) #[.pointer (some ⟨bw, 0, none⟩)] #[], 1⟩, ⟨.int .i64 3, .func (.func 108) #[.pointer (some ⟨bw, 0, none⟩)] #[], 2⟩]) Try.underlying178 Try.underlying33 rfl rfl rfl (fr.ev rfl) rfl (fr.ev rfl) M9 rfl rfl fun w15 hO16 hBq => ?_
 revert a
 replace M9 := hBq
 clear hBq
 refine Zm ?_
 refine Zf fo35_0 ?_
 replace B4 := (((B4.new hN8).only hO12 ne_b1_r6).only hO14 ne_b1_r6).only hO16 ne_b1_r6
 refine Zd (v := .int .i64 m.kind) pl33 (B4.cell 0 rfl) ?_
 refine Zv (.func (.func 106) #[.pointer (some ⟨bw, 0, none⟩)] #[]) (fun _ fr => x_lookup (k := .i64) (ok := false) (v := .func (.func 106) #[.pointer (some ⟨bw, 0, none⟩)] #[]) (b := true) Try.underlying178 Try.underlying33 rfl (fr.ev rfl) (fr.ev rfl) M9 (z := .nilFunc) (by kernel_rfl) (by rw [hk]; rfl)) ?_
 refine ZE msgE ag35 (B4.rangeE msgE) ?_
 replace hW := (((hW.new hN8).only hO12 ne_bw_r6).only hO14 ne_bw_r6).only hO16 ne_bw_r6
 replace hE := (((hE.new hN8).only hO12 ne_be_r6).only hO14 ne_be_r6).only hO16 ne_be_r6
 replace hH := (((hH.new hN8).only hO12 ne_bh_r6).only hO14 ne_bh_r6).only hO16 ne_bh_r6
 replace hI := (((hI.new hN8).only hO12 ne_bi_r6 ne_ig_r6).only hO14 ne_bi_r6 ne_ig_r6).only hO16 ne_bi_r6 ne_ig_r6
 replace hQ := (((hQ.new hN8).only hO12 (Apart.ne1 ap_Q_r6)).only hO14 (Apart.ne1 ap_Q_r6)).only hO16 (Apart.ne1 ap_Q_r6)
 replace hO := (((hO.new hN8).only hO12 (Apart.ne1 ap_A_r6)).only hO14 (Apart.ne1 ap_A_r6)).only hO16 (Apart.ne1 ap_A_r6)
 refine Zkx (fun _ fr => x_callb (all := #[.pointer (some ⟨bw, 0, none⟩), .agg (msgE.arr m)]) (vs := [.agg (msgE.arr m)]) rfl (fr.ev rfl) ⟨(fr.ev rfl), trivial⟩ rfl Try.func106 nm106 rfl) (gets_c m ⟨hW, hE, hH, hI, hQ, hO, ⟨ne_bw_be, ne_bw_bh, ne_bw_bi, ne_bw_ig, ne_be_bh, ne_be_bi, ne_be_ig, ne_bh_bi, ne_bh_ig, ne_bi_ig, ap_Q_bw, ap_Q_be, ap_Q_bh, ap_Q_bi, ap_Q_ig, ap_A_bw, ap_A_be, ap_A_bh, ap_A_bi, ap_A_ig, ap2_Q_A⟩⟩ (by first | omega | (simp only [List.length_append, List.length_cons, List.length_nil, List.length_map, List.length_take]; omega)) hsrc hk) ?_
 rintro v w22 ⟨rfl, A17, ac18, R19, mv20, hN23⟩
 replace hF := (((hF.trNew hN8).loc hO12 (.inr g_r6)).loc hO14 (.inr g_r6)).loc hO16 (.inr g_r6)
 have gA_A17 := gA_moved hF mv20 gA_A
 clear hW hE hH hI hQ hO
 obtain ⟨hW, hE, hH, hI, hQ, O21, hS⟩ := R19
 have ap_A17_bw := hS.ap_A_bw
 have ap_A17_be := hS.ap_A_be
 have ap_A17_bh := hS.ap_A_bh
 have ap_A17_bi := hS.ap_A_bi
 have ap_A17_ig := hS.ap_A_ig
 have ap2_Q_A17 := hS.ap2_Q_A
 refine Znl ?_
 refine Zee rfl [] trivial ?_
 replace hF := hF.locS hN23 (fun i => (fun h => h.elim (fun e => by rw [e]; exact (.inl (.inl rfl))) (fun h => h.elim (fun e => by rw [e]; exact (.inl (.inr (.inl rfl)))) (fun h => h.elim (fun e => by rw [e]; exact (.inl (.inr (.inr (.inl rfl))))) (fun h => gA_A i h)))))
 exact ⟨_, rfl, rfl, A17, ac18, ⟨hW, hE, hH, hI, hQ, O21, ⟨ne_bw_be, ne_bw_bh, ne_bw_bi, ne_bw_ig, ne_be_bh, ne_be_bi, ne_be_ig, ne_bh_bi, ne_bh_ig, ne_bi_ig, ap_Q_bw, ap_Q_be, ap_Q_bh, ap_Q_bi, ap_Q_ig, ap_A17_bw, ap_A17_be, ap_A17_bh, ap_A17_bi, ap_A17_ig, ap2_Q_A17⟩⟩, wmv gA_A17 ap_A17_bw ap_A17_be ap_A17_ig, hF⟩
theorem begin_2 {w : World} {bw be bh bi ig cap r : Nat} {d : Ent} {Q : Option Addr} {qc : Nat} {A : Option Addr} {ac : Nat} {out : List Msg} {bs : List UInt8} (m : Msg) (R : WorkR w bw be bh bi ig cap r m.line d Q qc A ac out bs) (hlen : out.length + 8 ≤ 1000000) (hsrc : 0 ≤ m.src ∧ m.src < 4) (hk : m.kind = 2) : Calls Try.prog 99 #[.pointer (some ⟨bw, 0, none⟩), .agg (msgE.arr m)] w (Ret fun v w' => v = .tuple #[] ∧ WRet w w' bw be bh bi ig cap r m.line Q qc A out (beginF bs d m).1 (beginF bs d m).2.1 (beginF bs d m).2.2) := by
 obtain ⟨hW, hE, hH, hI, hQ, hO, hS⟩ := R
 have ne_bw_be := hS.ne_bw_be
 have ne_bw_bh := hS.ne_bw_bh
 have ne_bw_bi := hS.ne_bw_bi
 have ne_bw_ig := hS.ne_bw_ig
 have ne_be_bh := hS.ne_be_bh
 have ne_be_bi := hS.ne_be_bi
 have ne_be_ig := hS.ne_be_ig
 have ne_bh_bi := hS.ne_bh_bi
 have ne_bh_ig := hS.ne_bh_ig
 have ne_bi_ig := hS.ne_bi_ig
 have ap_Q_bw := hS.ap_Q_bw
 have ap_Q_be := hS.ap_Q_be
 have ap_Q_bh := hS.ap_Q_bh
 have ap_Q_bi := hS.ap_Q_bi
 have ap_Q_ig := hS.ap_Q_ig
 have ap_A_bw := hS.ap_A_bw
 have ap_A_be := hS.ap_A_be
 have ap_A_bh := hS.ap_A_bh
 have ap_A_bi := hS.ap_A_bi
 have ap_A_ig := hS.ap_A_ig
 have ap2_Q_A := hS.ap2_Q_A
 have gA_A : ∀ g, inA A g → (g = bw ∨ g = be ∨ g = ig ∨ inA A g) ∨ w.heap.size ≤ g := fun g hg => .inl (.inr (.inr (.inr hg)))
 have hmn := m.hn
 have hF := Only.refl (fun k => k = bw ∨ k = be ∨ k = ig ∨ inA A k) w
 refine Zen 17 Try.func99 ?_
 refine Zsr ?_
 refine Znb (cs := msgE.arr m) fun b1 w2 hN3 B4 hb5 => ?_
 refine Znn ?_
 refine Zrg ?_
 intro a fr
 refine fx_makeMap fr rfl rfl rfl (by first | decide | simp) ?_
 clear fr a
 intro r6 w7 hN8 M9 hb10
 replace hW := hW.new hN3
 have ne_bw_r6 := nelt hW.lt hb10
 replace hE := hE.new hN3
 have ne_be_r6 := nelt hE.lt hb10
 replace hH := hH.new hN3
 have ne_bh_r6 := nelt hH.lt hb10
 replace hI := hI.new hN3
 have ne_bi_r6 := nelt hI.lt.1 hb10
 have ne_ig_r6 := nelt hI.lt.2 hb10
 replace hQ := hQ.new hN3
 have ap_Q_r6 := hQ.apart hb10
 replace hO := hO.new hN3
 have ap_A_r6 := hO.apart hb10
 have ne_b1_r6 := nelt B4.lt hb10
 replace hF := hF.trNew hN3
 have g_r6 := hF.sz hb10
 refine Zm ?_
 refine Zv _ (fun _ fr => x_makeBound rfl (fr.ev rfl)) ?_
 intro a fr
 refine fx_insert (es' := #[⟨.int .i64 1, .func (.func 106) #[.pointer (some ⟨bw, 0, none⟩)] #[], 0⟩]) Try.underlying178 Try.underlying33 rfl rfl rfl (fr.ev rfl) rfl (fr.ev rfl) M9 rfl rfl fun w11 hO12 hBq => ?_
 revert a
 replace M9 := hBq
 clear hBq
 refine Zm ?_
 refine Zv _ (fun _ fr => x_makeBound rfl (fr.ev rfl)) ?_
 intro a fr
 refine fx_insert (es' := #[⟨.int .i64 1, .func (.func 106) #[.pointer (some ⟨bw, 0, none⟩)] #[], 0⟩, ⟨.int .i64 2, .func (.func 107) #[.pointer (some ⟨bw, 0, none⟩)] #[], 1⟩]) Try.underlying178 Try.underlying33 rfl rfl rfl (fr.ev rfl) rfl (fr.ev rfl) M9 rfl rfl fun w13 hO14 hBq => ?_
 revert a
 replace M9 := hBq
 clear hBq
 refine Zm ?_
 refine Zv _ (fun _ fr => x_makeBound rfl (fr.ev rfl)) ?_
 intro a fr
 refine fx_insert (es' := #[⟨.int .i64 1, .func (.func 106) #[.pointer (some ⟨bw, 0, none⟩)] #[], 0⟩, ⟨.int .i64 2, .func (.func 107) #[.pointer (some ⟨bw, 0, none⟩)] #[], 1⟩, ⟨.int .i64 3, .func (.func 108) #[.pointer (some ⟨bw, 0, none⟩)] #[], 2⟩]) Try.underlying178 Try.underlying33 rfl rfl rfl (fr.ev rfl) rfl (fr.ev rfl) M9 rfl rfl fun w15 hO16 hBq => ?_
 revert a
 replace M9 := hBq
 clear hBq
 refine Zm ?_
 refine Zf fo35_0 ?_
 replace B4 := (((B4.new hN8).only hO12 ne_b1_r6).only hO14 ne_b1_r6).only hO16 ne_b1_r6
 refine Zd (v := .int .i64 m.kind) pl33 (B4.cell 0 rfl) ?_
 refine Zv (.func (.func 107) #[.pointer (some ⟨bw, 0, none⟩)] #[]) (fun _ fr => x_lookup (k := .i64) (ok := false) (v := .func (.func 107) #[.pointer (some ⟨bw, 0, none⟩)] #[]) (b := true) Try.underlying178 Try.underlying33 rfl (fr.ev rfl) (fr.ev rfl) M9 (z := .nilFunc) (by kernel_rfl) (by rw [hk]; rfl)) ?_
 refine ZE msgE ag35 (B4.rangeE msgE) ?_
 replace hW := (((hW.new hN8).only hO12 ne_bw_r6).only hO14 ne_bw_r6).only hO16 ne_bw_r6
 replace hE := (((hE.new hN8).only hO12 ne_be_r6).only hO14 ne_be_r6).only hO16 ne_be_r6
 replace hH := (((hH.new hN8).only hO12 ne_bh_r6).only hO14 ne_bh_r6).only hO16 ne_bh_r6
 replace hI := (((hI.new hN8).only hO12 ne_bi_r6 ne_ig_r6).only hO14 ne_bi_r6 ne_ig_r6).only hO16 ne_bi_r6 ne_ig_r6
 replace hQ := (((hQ.new hN8).only hO12 (Apart.ne1 ap_Q_r6)).only hO14 (Apart.ne1 ap_Q_r6)).only hO16 (Apart.ne1 ap_Q_r6)
 replace hO := (((hO.new hN8).only hO12 (Apart.ne1 ap_A_r6)).only hO14 (Apart.ne1 ap_A_r6)).only hO16 (Apart.ne1 ap_A_r6)
 refine Zkx (fun _ fr => x_callb (all := #[.pointer (some ⟨bw, 0, none⟩), .agg (msgE.arr m)]) (vs := [.agg (msgE.arr m)]) rfl (fr.ev rfl) ⟨(fr.ev rfl), trivial⟩ rfl Try.func107 nm107 rfl) (getm_c m ⟨hW, hE, hH, hI, hQ, hO, ⟨ne_bw_be, ne_bw_bh, ne_bw_bi, ne_bw_ig, ne_be_bh, ne_be_bi, ne_be_ig, ne_bh_bi, ne_bh_ig, ne_bi_ig, ap_Q_bw, ap_Q_be, ap_Q_bh, ap_Q_bi, ap_Q_ig, ap_A_bw, ap_A_be, ap_A_bh, ap_A_bi, ap_A_ig, ap2_Q_A⟩⟩ (by first | omega | (simp only [List.length_append, List.length_cons, List.length_nil, List.length_map, List.length_take]; omega)) hsrc hk) ?_
 rintro v w22 ⟨rfl, A17, ac18, R19, mv20, hN23⟩
 replace hF := (((hF.trNew hN8).loc hO12 (.inr g_r6)).loc hO14 (.inr g_r6)).loc hO16 (.inr g_r6)
 have gA_A17 := gA_moved hF mv20 gA_A
 clear hW hE hH hI hQ hO
 obtain ⟨hW, hE, hH, hI, hQ, O21, hS⟩ := R19
 have ap_A17_bw := hS.ap_A_bw
 have ap_A17_be := hS.ap_A_be
 have ap_A17_bh := hS.ap_A_bh
 have ap_A17_bi := hS.ap_A_bi
 have ap_A17_ig := hS.ap_A_ig
 have ap2_Q_A17 := hS.ap2_Q_A
 refine Znl ?_
 refine Zee rfl [] trivial ?_
 replace hF := hF.locS hN23 (fun i => (fun h => h.elim (fun e => by rw [e]; exact (.inl (.inl rfl))) (fun h => h.elim (fun e => by rw [e]; exact (.inl (.inr (.inl rfl)))) (fun h => h.elim (fun e => by rw [e]; exact (.inl (.inr (.inr (.inl rfl))))) (fun h => gA_A i h)))))
 exact ⟨_, rfl, rfl, A17, ac18, ⟨hW, hE, hH, hI, hQ, O21, ⟨ne_bw_be, ne_bw_bh, ne_bw_bi, ne_bw_ig, ne_be_bh, ne_be_bi, ne_be_ig, ne_bh_bi, ne_bh_ig, ne_bi_ig, ap_Q_bw, ap_Q_be, ap_Q_bh, ap_Q_bi, ap_Q_ig, ap_A17_bw, ap_A17_be, ap_A17_bh, ap_A17_bi, ap_A17_ig, ap2_Q_A17⟩⟩, wmv gA_A17 ap_A17_bw ap_A17_be ap_A17_ig, hF⟩
theorem begin_3 {w : World} {bw be bh bi ig cap r : Nat} {d : Ent} {Q : Option Addr} {qc : Nat} {A : Option Addr} {ac : Nat} {out : List Msg} {bs : List UInt8} (m : Msg) (R : WorkR w bw be bh bi ig cap r m.line d Q qc A ac out bs) (hlen : out.length + 8 ≤ 1000000) (hsrc : 0 ≤ m.src ∧ m.src < 4) (hk : m.kind = 3) : Calls Try.prog 99 #[.pointer (some ⟨bw, 0, none⟩), .agg (msgE.arr m)] w (Ret fun v w' => v = .tuple #[] ∧ WRet w w' bw be bh bi ig cap r m.line Q qc A out (beginF bs d m).1 (beginF bs d m).2.1 (beginF bs d m).2.2) := by
 obtain ⟨hW, hE, hH, hI, hQ, hO, hS⟩ := R
 have ne_bw_be := hS.ne_bw_be
 have ne_bw_bh := hS.ne_bw_bh
 have ne_bw_bi := hS.ne_bw_bi
 have ne_bw_ig := hS.ne_bw_ig
 have ne_be_bh := hS.ne_be_bh
 have ne_be_bi := hS.ne_be_bi
 have ne_be_ig := hS.ne_be_ig
 have ne_bh_bi := hS.ne_bh_bi
 have ne_bh_ig := hS.ne_bh_ig
 have ne_bi_ig := hS.ne_bi_ig
 have ap_Q_bw := hS.ap_Q_bw
 have ap_Q_be := hS.ap_Q_be
 have ap_Q_bh := hS.ap_Q_bh
 have ap_Q_bi := hS.ap_Q_bi
 have ap_Q_ig := hS.ap_Q_ig
 have ap_A_bw := hS.ap_A_bw
 have ap_A_be := hS.ap_A_be
 have ap_A_bh := hS.ap_A_bh
 have ap_A_bi := hS.ap_A_bi
 have ap_A_ig := hS.ap_A_ig
 have ap2_Q_A := hS.ap2_Q_A
 have gA_A : ∀ g, inA A g → (g = bw ∨ g = be ∨ g = ig ∨ inA A g) ∨ w.heap.size ≤ g := fun g hg => .inl (.inr (.inr (.inr hg)))
 have hmn := m.hn
 have hF := Only.refl (fun k => k = bw ∨ k = be ∨ k = ig ∨ inA A k) w
 refine Zen 17 Try.func99 ?_
 refine Zsr ?_
 refine Znb (cs := msgE.arr m) fun b1 w2 hN3 B4 hb5 => ?_
 refine Znn ?_
 refine Zrg ?_
 intro a fr
 refine fx_makeMap fr rfl rfl rfl (by first | decide | simp) ?_
 clear fr a
 intro r6 w7 hN8 M9 hb10
 replace hW := hW.new hN3
 have ne_bw_r6 := nelt hW.lt hb10
 replace hE := hE.new hN3
 have ne_be_r6 := nelt hE.lt hb10
 replace hH := hH.new hN3
 have ne_bh_r6 := nelt hH.lt hb10
 replace hI := hI.new hN3
 have ne_bi_r6 := nelt hI.lt.1 hb10
 have ne_ig_r6 := nelt hI.lt.2 hb10
 replace hQ := hQ.new hN3
 have ap_Q_r6 := hQ.apart hb10
 replace hO := hO.new hN3
 have ap_A_r6 := hO.apart hb10
 have ne_b1_r6 := nelt B4.lt hb10
 replace hF := hF.trNew hN3
 have g_r6 := hF.sz hb10
 refine Zm ?_
 refine Zv _ (fun _ fr => x_makeBound rfl (fr.ev rfl)) ?_
 intro a fr
 refine fx_insert (es' := #[⟨.int .i64 1, .func (.func 106) #[.pointer (some ⟨bw, 0, none⟩)] #[], 0⟩]) Try.underlying178 Try.underlying33 rfl rfl rfl (fr.ev rfl) rfl (fr.ev rfl) M9 rfl rfl fun w11 hO12 hBq => ?_
 revert a
 replace M9 := hBq
 clear hBq
 refine Zm ?_
 refine Zv _ (fun _ fr => x_makeBound rfl (fr.ev rfl)) ?_
 intro a fr
 refine fx_insert (es' := #[⟨.int .i64 1, .func (.func 106) #[.pointer (some ⟨bw, 0, none⟩)] #[], 0⟩, ⟨.int .i64 2, .func (.func 107) #[.pointer (some ⟨bw, 0, none⟩)] #[], 1⟩]) Try.underlying178 Try.underlying33 rfl rfl rfl (fr.ev rfl) rfl (fr.ev rfl) M9 rfl rfl fun w13 hO14 hBq => ?_
 revert a
 replace M9 := hBq
 clear hBq
 refine Zm ?_
 refine Zv _ (fun _ fr => x_makeBound rfl (fr.ev rfl)) ?_
 intro a fr
 refine fx_insert (es' := #[⟨.int .i64 1, .func (.func 106) #[.pointer (some ⟨bw, 0, none⟩)] #[], 0⟩, ⟨.int .i64 2, .func (.func 107) #[.pointer (some ⟨bw, 0, none⟩)] #[], 1⟩, ⟨.int .i64 3, .func (.func 108) #[.pointer (some ⟨bw, 0, none⟩)] #[], 2⟩]) Try.underlying178 Try.underlying33 rfl rfl rfl (fr.ev rfl) rfl (fr.ev rfl) M9 rfl rfl fun w15 hO16 hBq => ?_
 revert a
 replace M9 := hBq
 clear hBq
 refine Zm ?_
 refine Zf fo35_0 ?_
 replace B4 := (((B4.new hN8).only hO12 ne_b1_r6).only hO14 ne_b1_r6).only hO16 ne_b1_r6
 refine Zd (v := .int .i64 m.kind) pl33 (B4.cell 0 rfl) ?_
 refine Zv (.func (.func 108) #[.pointer (some ⟨bw, 0, none⟩)] #[]) (fun _ fr => x_lookup (k := .i64) (ok := false) (v := .func (.func 108) #[.pointer (some ⟨bw, 0, none⟩)] #[]) (b := true) Try.underlying178 Try.underlying33 rfl (fr.ev rfl) (fr.ev rfl) M9 (z := .nilFunc) (by kernel_rfl) (by rw [hk]; rfl)) ?_
 refine ZE msgE ag35 (B4.rangeE msgE) ?_
 replace hW := (((hW.new hN8).only hO12 ne_bw_r6).only hO14 ne_bw_r6).only hO16 ne_bw_r6
 replace hE := (((hE.new hN8).only hO12 ne_be_r6).only hO14 ne_be_r6).only hO16 ne_be_r6
 replace hH := (((hH.new hN8).only hO12 ne_bh_r6).only hO14 ne_bh_r6).only hO16 ne_bh_r6
 replace hI := (((hI.new hN8).only hO12 ne_bi_r6 ne_ig_r6).only hO14 ne_bi_r6 ne_ig_r6).only hO16 ne_bi_r6 ne_ig_r6
 replace hQ := (((hQ.new hN8).only hO12 (Apart.ne1 ap_Q_r6)).only hO14 (Apart.ne1 ap_Q_r6)).only hO16 (Apart.ne1 ap_Q_r6)
 replace hO := (((hO.new hN8).only hO12 (Apart.ne1 ap_A_r6)).only hO14 (Apart.ne1 ap_A_r6)).only hO16 (Apart.ne1 ap_A_r6)
 refine Zkx (fun _ fr => x_callb (all := #[.pointer (some ⟨bw, 0, none⟩), .agg (msgE.arr m)]) (vs := [.agg (msgE.arr m)]) rfl (fr.ev rfl) ⟨(fr.ev rfl), trivial⟩ rfl Try.func108 nm108 rfl) (hput_c m ⟨hW, hE, hH, hI, hQ, hO, ⟨ne_bw_be, ne_bw_bh, ne_bw_bi, ne_bw_ig, ne_be_bh, ne_be_bi, ne_be_ig, ne_bh_bi, ne_bh_ig, ne_bi_ig, ap_Q_bw, ap_Q_be, ap_Q_bh, ap_Q_bi, ap_Q_ig, ap_A_bw, ap_A_be, ap_A_bh, ap_A_bi, ap_A_ig, ap2_Q_A⟩⟩ (by first | omega | (simp only [List.length_append, List.length_cons, List.length_nil, List.length_map, List.length_take]; omega)) hsrc hk) ?_
 rintro v w22 ⟨rfl, A17, ac18, R19, mv20, hN23⟩
 replace hF := (((hF.trNew hN8).loc hO12 (.inr g_r6)).loc hO14 (.inr g_r6)).loc hO16 (.inr g_r6)
 have gA_A17 := gA_moved hF mv20 gA_A
 clear hW hE hH hI hQ hO
 obtain ⟨hW, hE, hH, hI, hQ, O21, hS⟩ := R19
 have ap_A17_bw := hS.ap_A_bw
 have ap_A17_be := hS.ap_A_be
 have ap_A17_bh := hS.ap_A_bh
 have ap_A17_bi := hS.ap_A_bi
 have ap_A17_ig := hS.ap_A_ig
 have ap2_Q_A17 := hS.ap2_Q_A
 refine Znl ?_
 refine Zee rfl [] trivial ?_
 replace hF := hF.locS hN23 (fun i => (fun h => h.elim (fun e => by rw [e]; exact (.inl (.inl rfl))) (fun h => h.elim (fun e => by rw [e]; exact (.inl (.inr (.inl rfl)))) (fun h => h.elim (fun e => by rw [e]; exact (.inl (.inr (.inr (.inl rfl))))) (fun h => gA_A i h)))))
 exact ⟨_, rfl, rfl, A17, ac18, ⟨hW, hE, hH, hI, hQ, O21, ⟨ne_bw_be, ne_bw_bh, ne_bw_bi, ne_bw_ig, ne_be_bh, ne_be_bi, ne_be_ig, ne_bh_bi, ne_bh_ig, ne_bi_ig, ap_Q_bw, ap_Q_be, ap_Q_bh, ap_Q_bi, ap_Q_ig, ap_A17_bw, ap_A17_be, ap_A17_bh, ap_A17_bi, ap_A17_ig, ap2_Q_A17⟩⟩, wmv gA_A17 ap_A17_bw ap_A17_be ap_A17_ig, hF⟩
theorem begin_c {w : World} {bw be bh bi ig cap r : Nat} {d : Ent} {Q : Option Addr} {qc : Nat} {A : Option Addr} {ac : Nat} {out : List Msg} {bs : List UInt8} (m : Msg) (R : WorkR w bw be bh bi ig cap r m.line d Q qc A ac out bs) (hlen : out.length + 8 ≤ 1000000) (hsrc : 0 ≤ m.src ∧ m.src < 4)  (hk : 1 ≤ m.kind ∧ m.kind ≤ 3) : Calls Try.prog 99 #[.pointer (some ⟨bw, 0, none⟩), .agg (msgE.arr m)] w (Ret fun v w' => v = .tuple #[] ∧ WRet w w' bw be bh bi ig cap r m.line Q qc A out (beginF bs d m).1 (beginF bs d m).2.1 (beginF bs d m).2.2) := by
  have h : m.kind = 1 ∨ m.kind = 2 ∨ m.kind = 3 := by omega
  rcases h with h | h | h
  · exact begin_1 m R hlen hsrc h
  · exact begin_2 m R hlen hsrc h
  · exact begin_3 m R hlen hsrc h
theorem begin_l {w : World} {bw be bh bi ig cap r : Nat} {line : Int} {d : Ent} {Q : Option Addr} {qc : Nat} {A : Option Addr} {ac : Nat} {out : List Msg} {bs : List UInt8} (m : Msg) (R : WorkR w bw be bh bi ig cap r line d Q qc A ac out bs) (hlen : out.length + 8 ≤ 1000000) (hsrc : 0 ≤ m.src ∧ m.src < 4)  (hk : 1 ≤ m.kind ∧ m.kind ≤ 3) (hml : m.line = line) : Calls Try.prog 99 #[.pointer (some ⟨bw, 0, none⟩), .agg (msgE.arr m)] w (Ret fun v w' => v = .tuple #[] ∧ WRet w w' bw be bh bi ig cap r line Q qc A out (beginF bs d m).1 (beginF bs d m).2.1 (beginF bs d m).2.2) := by
  subst hml
  exact begin_c m R hlen hsrc hk
end Go.Proofs.Ytflnlmibkbojcaa
namespace Go.Proofs.Ytflnlmibkbojcaa
open Go.RowKit
theorem hmv {n bw be ig : Nat} {A A' Q : Option Addr} (h : ∀ k, inA A' k → (k = bw ∨ k = be ∨ k = ig ∨ inA A k ∨ inA Q k) ∨ n ≤ k) (h1 : Apart A' bw) (h2 : Apart A' be) (h3 : Apart A' ig) : ∀ k, inA A' k → (inA A k ∨ inA Q k) ∨ n ≤ k := fun k hk => by
  rcases h k hk with (rfl | rfl | rfl | h) | h
  · exact absurd hk h1
  · exact absurd hk h2
  · exact absurd hk h3
  · exact .inl h
  · exact .inr h
theorem req_n {w : World} {bw be bh bi ig cap r : Nat} {o : Int} {sh : Sh} {asks : Int} {kind : Int} {waits : Int} {told : Bool} {q : List Msg} {Q : Option Addr} {qc : Nat} {A : Option Addr} {ac : Nat} {out : List Msg} {bs : List UInt8} (m : Msg) (R : WorkR w bw be bh bi ig cap r m.line (Ent.mk o sh false asks kind waits told q) Q qc A ac out bs) (hlen : out.length + 8 ≤ 1000000) (hsrc : 0 ≤ m.src ∧ m.src < 4) (hk : 1 ≤ m.kind ∧ m.kind ≤ 3) : Calls Try.prog 88 #[.pointer (some ⟨bw, 0, none⟩), .agg (msgE.arr m)] w (Ret fun v w' => v = .tuple #[] ∧ HRet w w' bw be bh bi ig cap r m.line Q A out (beginF bs (Ent.mk o sh false asks kind waits told q) m)) := by
 obtain ⟨hW, hE, hH, hI, hQ, hO, hS⟩ := R
 have ne_bw_be := hS.ne_bw_be
 have ne_bw_bh := hS.ne_bw_bh
 have ne_bw_bi := hS.ne_bw_bi
 have ne_bw_ig := hS.ne_bw_ig
 have ne_be_bh := hS.ne_be_bh
 have ne_be_bi := hS.ne_be_bi
 have ne_be_ig := hS.ne_be_ig
 have ne_bh_bi := hS.ne_bh_bi
 have ne_bh_ig := hS.ne_bh_ig
 have ne_bi_ig := hS.ne_bi_ig
 have ap_Q_bw := hS.ap_Q_bw
 have ap_Q_be := hS.ap_Q_be
 have ap_Q_bh := hS.ap_Q_bh
 have ap_Q_bi := hS.ap_Q_bi
 have ap_Q_ig := hS.ap_Q_ig
 have ap_A_bw := hS.ap_A_bw
 have ap_A_be := hS.ap_A_be
 have ap_A_bh := hS.ap_A_bh
 have ap_A_bi := hS.ap_A_bi
 have ap_A_ig := hS.ap_A_ig
 have ap2_Q_A := hS.ap2_Q_A
 have gA_A : ∀ g, inA A g → (g = bw ∨ g = be ∨ g = ig ∨ inA A g ∨ inA Q g) ∨ w.heap.size ≤ g := fun g hg => .inl (.inr (.inr (.inr (.inl hg))))
 have hmn := m.hn
 have gA_Q : ∀ g, inA Q g → (g = bw ∨ g = be ∨ g = ig ∨ inA A g ∨ inA Q g) ∨ w.heap.size ≤ g := fun g hg => .inl (.inr (.inr (.inr (.inr hg))))
 have hF := Only.refl (fun k => k = bw ∨ k = be ∨ k = ig ∨ inA A k ∨ inA Q k) w
 refine Zen 30 Try.func88 ?_
 refine Zsr ?_
 refine Znb (cs := msgE.arr m) fun b1 w2 hN3 B4 hb5 => ?_
 refine Znq ?_
 refine Zsm ?_
 refine Zn ?_
 refine Zf fo176_1 ?_
 replace hW := hW.new hN3
 refine Zd pl144 (hW.cell 1 rfl) ?_
 refine Zn ?_
 refine Zf fo147_2 ?_
 replace hE := hE.new hN3
 refine Zd (v := .bool false) pl4 (hE.cell 5 rfl) ?_
 refine Znf ?_
 refine Zkn ?_
 refine Zgm ?_
 refine ZE msgE ag35 (B4.rangeE msgE) ?_
 replace hH := hH.new hN3
 replace hI := hI.new hN3
 replace hQ := hQ.new hN3
 replace hO := hO.new hN3
 refine Zk (args := #[.pointer (some ⟨bw, 0, none⟩), .agg (msgE.arr m)]) cf99 (begin_c m ⟨hW, hE, hH, hI, hQ, hO, ⟨ne_bw_be, ne_bw_bh, ne_bw_bi, ne_bw_ig, ne_be_bh, ne_be_bi, ne_be_ig, ne_bh_bi, ne_bh_ig, ne_bi_ig, ap_Q_bw, ap_Q_be, ap_Q_bh, ap_Q_bi, ap_Q_ig, ap_A_bw, ap_A_be, ap_A_bh, ap_A_bi, ap_A_ig, ap2_Q_A⟩⟩ (by first | omega | (simp only [List.length_append, List.length_cons, List.length_nil, List.length_map, List.length_take]; omega)) hsrc hk) ?_
 rintro v w11 ⟨rfl, A6, ac7, R8, mv9, hN12⟩
 replace hF := hF.trNew hN3
 have gA_A6 := gA_moved hF mv9 gA_A
 clear hW hE hH hI hQ hO
 obtain ⟨hW, hE, hH, hI, hQ, O10, hS⟩ := R8
 have ap_A6_bw := hS.ap_A_bw
 have ap_A6_be := hS.ap_A_be
 have ap_A6_bh := hS.ap_A_bh
 have ap_A6_bi := hS.ap_A_bi
 have ap_A6_ig := hS.ap_A_ig
 have ap2_Q_A6 := hS.ap2_Q_A
 refine Znl ?_
 refine Zee rfl [] trivial ?_
 replace hF := hF.locS hN12 (fun i => (fun h => h.elim (fun e => by rw [e]; exact (.inl (.inl rfl))) (fun h => h.elim (fun e => by rw [e]; exact (.inl (.inr (.inl rfl)))) (fun h => h.elim (fun e => by rw [e]; exact (.inl (.inr (.inr (.inl rfl))))) (fun h => gA_A i h)))))
 exact ⟨_, rfl, rfl, Q, qc, A6, ac7, ⟨hW, hE, hH, hI, hQ, O10, ⟨ne_bw_be, ne_bw_bh, ne_bw_bi, ne_bw_ig, ne_be_bh, ne_be_bi, ne_be_ig, ne_bh_bi, ne_bh_ig, ne_bi_ig, ap_Q_bw, ap_Q_be, ap_Q_bh, ap_Q_bi, ap_Q_ig, ap_A6_bw, ap_A6_be, ap_A6_bh, ap_A6_bi, ap_A6_ig, ap2_Q_A6⟩⟩, hmv gA_A6 ap_A6_bw ap_A6_be ap_A6_ig, hmv gA_Q ap_Q_bw ap_Q_be ap_Q_ig, hF⟩
theorem req_b {w : World} {bw be bh bi ig cap r : Nat} {o : Int} {sh : Sh} {asks : Int} {kind : Int} {waits : Int} {told : Bool} {q : List Msg} {Q : Option Addr} {qc : Nat} {A : Option Addr} {ac : Nat} {out : List Msg} {bs : List UInt8} (m : Msg) (R : WorkR w bw be bh bi ig cap r m.line (Ent.mk o sh true asks kind waits told q) Q qc A ac out bs) (hlen : out.length + 8 ≤ 1000000) (hsrc : 0 ≤ m.src ∧ m.src < 4) (OQ : Own msgE w Q qc q) (hql : q.length ≤ 1000000) : Calls Try.prog 88 #[.pointer (some ⟨bw, 0, none⟩), .agg (msgE.arr m)] w (Ret fun v w' => v = .tuple #[] ∧ HRet w w' bw be bh bi ig cap r m.line Q A out ({ (Ent.mk o sh true asks kind waits told q) with q := q ++ [m] }, bs, ([] : List Msg))) := by
 obtain ⟨hW, hE, hH, hI, hQ, hO, hS⟩ := R
 have ne_bw_be := hS.ne_bw_be
 have ne_bw_bh := hS.ne_bw_bh
 have ne_bw_bi := hS.ne_bw_bi
 have ne_bw_ig := hS.ne_bw_ig
 have ne_be_bh := hS.ne_be_bh
 have ne_be_bi := hS.ne_be_bi
 have ne_be_ig := hS.ne_be_ig
 have ne_bh_bi := hS.ne_bh_bi
 have ne_bh_ig := hS.ne_bh_ig
 have ne_bi_ig := hS.ne_bi_ig
 have ap_Q_bw := hS.ap_Q_bw
 have ap_Q_be := hS.ap_Q_be
 have ap_Q_bh := hS.ap_Q_bh
 have ap_Q_bi := hS.ap_Q_bi
 have ap_Q_ig := hS.ap_Q_ig
 have ap_A_bw := hS.ap_A_bw
 have ap_A_be := hS.ap_A_be
 have ap_A_bh := hS.ap_A_bh
 have ap_A_bi := hS.ap_A_bi
 have ap_A_ig := hS.ap_A_ig
 have ap2_Q_A := hS.ap2_Q_A
 have hmn := m.hn
 have gA_Q : ∀ g, inA Q g → (g = bw ∨ g = be ∨ g = ig ∨ inA A g ∨ inA Q g) ∨ w.heap.size ≤ g := fun g hg => .inl (.inr (.inr (.inr (.inr hg))))
 clear hQ
 have hF := Only.refl (fun k => k = bw ∨ k = be ∨ k = ig ∨ inA A k ∨ inA Q k) w
 refine Zen 30 Try.func88 ?_
 refine Zsr ?_
 refine Znb (cs := msgE.arr m) fun b1 w2 hN3 B4 hb5 => ?_
 have ap_Q_b1 := OQ.apart hb5
 refine Znq ?_
 refine Zsm ?_
 refine Zn ?_
 refine Zf fo176_1 ?_
 replace hW := hW.new hN3
 refine Zd pl144 (hW.cell 1 rfl) ?_
 refine Zn ?_
 refine Zf fo147_2 ?_
 replace hE := hE.new hN3
 refine Zd (v := .bool true) pl4 (hE.cell 5 rfl) ?_
 refine Znt ?_
 refine Zsq ?_
 refine ZhT (n := 14) 14 (fun w => Blk w bw 176 #[.slice A out.length ac, .pointer (some ⟨be, 0, none⟩), .pointer (some ⟨bh, 0, none⟩), .int .u32 m.line] ∧ Blk w be 147 (entA (Ent.mk o sh true asks kind waits told q) (.slice Q q.length qc)) ∧ Blk w b1 35 (msgE.arr m) ∧ True) ?_
 intro w6 hN7
 replace hW := hW.new hN7
 replace hE := hE.new hN7
 replace B4 := B4.new hN7
 have hS9 := And.intro hW (And.intro hE (And.intro B4 trivial))
 refine Zhm 0 hS9 ?_
 refine Zhc 1 hS9 ?_
 refine Zhf 2 fo176_1 hS9 ?_
 refine Zhl 3 pl144 hS9 (fun _ ⟨hW, _⟩ => (hW.cell 1 rfl)) ?_
 refine Zhm 4 hS9 ?_
 refine Zhc 5 hS9 ?_
 refine Zhf 6 fo176_1 hS9 ?_
 refine Zhl 7 pl144 hS9 (fun _ ⟨hW, _⟩ => (hW.cell 1 rfl)) ?_
 refine Zhc 8 hS9 ?_
 refine Zhf 9 fo147_7 hS9 ?_
 refine Zhl (v := .slice Q q.length qc) 10 pl29 hS9 (fun _ ⟨_, hE, _⟩ => (hE.cell 10 rfl)) ?_
 refine ZhE 11 msgE ag35 hS9 (fun _ ⟨_, _, B4, _⟩ => (B4.rangeE msgE)) ?_
 refine Zh1 12 ?_
 intro a fr
 refine fx_build1 (E := msgE) (p := m) elMsg (by decide) fr rfl rfl (by decide) rfl (fr.ev rfl) ?_
 clear fr a
 intro A8 w9 hN10 O11 hA12
 replace hW := hW.new hN10
 replace hE := hE.new hN10
 replace B4 := B4.new hN10
 refine Zhb ⟨hW, hE, B4, trivial⟩ ?_
 refine Zh1 13 ?_
 intro a fr
 replace OQ := ((OQ.new hN3).new hN7).new hN10
 refine fx_append (E := msgE) (l := q) (l' := [m]) elMsg fr rfl rfl (by decide) rfl (fr.ev rfl) (fr.ev rfl) (by first | rfl | (simp; done) | (simp; omega)) (by first | rfl | (simp; done) | (simp; omega)) OQ O11.view (by first | omega | (simp only [List.length_append, List.length_cons, List.length_nil]; omega)) (by first | (unfold maxLen; done) | (unfold maxLen; first | omega | (simp only [List.length_append, List.length_cons, List.length_nil]; omega) | (simp; done) | (simp; omega))) ?_
 clear fr a
 intro A13 cap14 w15 O16 hO17 mv18
 have ap_A13_bw : Apart A13 bw := moved_apart mv18 ap_Q_bw hW.lt
 have ap_A13_be : Apart A13 be := moved_apart mv18 ap_Q_be hE.lt
 replace hH := ((hH.new hN3).new hN7).new hN10
 have ap_A13_bh : Apart A13 bh := moved_apart mv18 ap_Q_bh hH.lt
 replace hI := ((hI.new hN3).new hN7).new hN10
 have ap_A13_bi : Apart A13 bi := moved_apart mv18 ap_Q_bi hI.lt.1
 have ap_A13_ig : Apart A13 ig := moved_apart mv18 ap_Q_ig hI.lt.2
 replace hO := ((hO.new hN3).new hN7).new hN10
 have ap2_A13_A : Apart2 A13 A := moved_apart2 mv18 ap2_Q_A fun _ hg => hO.lt hg
 replace hF := ((hF.trNew hN3).trNew hN7).trNew hN10
 have gA_A13 := gA_moved hF mv18 gA_Q
 clear OQ
 replace hW := hW.only hO17 ap_Q_bw
 replace hE := hE.only hO17 ap_Q_be
 replace B4 := B4.only hO17 ap_Q_b1
 refine Zhb ⟨hW, hE, B4, trivial⟩ ?_
 refine Zhn ?_
 refine Ztl ?_
 refine Zn ?_
 refine Zf fo147_7 ?_
 refine Zs1 (cs' := entA ({ (Ent.mk o sh true asks kind waits told q) with q := q ++ ([m]) }) (.slice A13 ((q ++ ([m])).length) cap14)) sz29 hE (show 10 < 11 by decide) rfl fun w19 hO20 hE => ?_
 refine Znn ?_
 refine Zrt ?_
 refine Zr1 ?_
 refine Zre rfl [] trivial ?_
 refine ⟨_, rfl, rfl, ?_⟩
 unfold HRet
 rw [List.append_nil]
 replace hH := (hH.only hO17 ap_Q_bh).only hO20 ne_be_bh.symm
 replace hI := (hI.only hO17 ap_Q_bi ap_Q_ig).only hO20 ne_be_bi.symm ne_be_ig.symm
 replace hO := (hO.only hO17 (fun g h1 h2 => ap2_Q_A.symm g h1 h2)).only hO20 (Apart.ne1 ap_A_be)
 replace hF := (hF.locA hO17 gA_Q).loc hO20 (.inl (.inr (.inl rfl)))
 replace hW := hW.only hO20 ne_bw_be
 replace O16 := O16.only hO20 (Apart.ne1 ap_A13_be)
 exact ⟨A13, cap14, A, ac, ⟨hW, hE, hH, hI, O16.view, hO, ⟨ne_bw_be, ne_bw_bh, ne_bw_bi, ne_bw_ig, ne_be_bh, ne_be_bi, ne_be_ig, ne_bh_bi, ne_bh_ig, ne_bi_ig, ap_A13_bw, ap_A13_be, ap_A13_bh, ap_A13_bi, ap_A13_ig, ap_A_bw, ap_A_be, ap_A_bh, ap_A_bi, ap_A_ig, ap2_A13_A⟩⟩, fun _ hk => .inl (.inl hk), hmv gA_A13 ap_A13_bw ap_A13_be ap_A13_ig, hF⟩
theorem back_ok {w : World} {bw be bh bi ig cap r : Nat} {o : Int} {sh : Sh} {asks : Int} {kind : Int} {waits : Int} {told : Bool} {q : List Msg} {Q : Option Addr} {qc : Nat} {A : Option Addr} {ac : Nat} {out : List Msg} {bs : List UInt8} (m : Msg) (R : WorkR w bw be bh bi ig cap r m.line (Ent.mk o sh true asks kind waits told q) Q qc A ac out bs) (hlen : out.length + 8 ≤ 1000000) (hsrc : 0 ≤ m.src ∧ m.src < 4) (hask : 0 ≤ asks ∧ asks < 4) (hk : m.kind = 11) (hw : 0 < waits) (ho : o = m.src) (hkk : kind = 1 ∨ kind = 2) : Calls Try.prog 89 #[.pointer (some ⟨bw, 0, none⟩), .agg (msgE.arr m)] w (Ret fun v w' => v = .tuple #[] ∧ HRet w w' bw be bh bi ig cap r m.line Q A out (otherF bs (Ent.mk o sh true asks kind waits told q) m)) := by
 obtain ⟨hW, hE, hH, hI, hQ, hO, hS⟩ := R
 have ne_bw_be := hS.ne_bw_be
 have ne_bw_bh := hS.ne_bw_bh
 have ne_bw_bi := hS.ne_bw_bi
 have ne_bw_ig := hS.ne_bw_ig
 have ne_be_bh := hS.ne_be_bh
 have ne_be_bi := hS.ne_be_bi
 have ne_be_ig := hS.ne_be_ig
 have ne_bh_bi := hS.ne_bh_bi
 have ne_bh_ig := hS.ne_bh_ig
 have ne_bi_ig := hS.ne_bi_ig
 have ap_Q_bw := hS.ap_Q_bw
 have ap_Q_be := hS.ap_Q_be
 have ap_Q_bh := hS.ap_Q_bh
 have ap_Q_bi := hS.ap_Q_bi
 have ap_Q_ig := hS.ap_Q_ig
 have ap_A_bw := hS.ap_A_bw
 have ap_A_be := hS.ap_A_be
 have ap_A_bh := hS.ap_A_bh
 have ap_A_bi := hS.ap_A_bi
 have ap_A_ig := hS.ap_A_ig
 have ap2_Q_A := hS.ap2_Q_A
 have gA_A : ∀ g, inA A g → (g = bw ∨ g = be ∨ g = ig ∨ inA A g ∨ inA Q g) ∨ w.heap.size ≤ g := fun g hg => .inl (.inr (.inr (.inr (.inl hg))))
 have hmn := m.hn
 have gA_Q : ∀ g, inA Q g → (g = bw ∨ g = be ∨ g = ig ∨ inA A g ∨ inA Q g) ∨ w.heap.size ≤ g := fun g hg => .inl (.inr (.inr (.inr (.inr hg))))
 have hF := Only.refl (fun k => k = bw ∨ k = be ∨ k = ig ∨ inA A k ∨ inA Q k) w
 refine Zen 104 Try.func89 ?_
 refine Zsr ?_
 refine Znb (cs := msgE.arr m) fun b1 w2 hN3 B4 hb5 => ?_
 have ne_be_b1 := nelt hE.lt hb5
 have ne_ig_b1 := nelt hI.lt.2 hb5
 refine Znq ?_
 refine Zhd (n := 30) (fun w => Blk w bw 176 #[.slice A out.length ac, .pointer (some ⟨be, 0, none⟩), .pointer (some ⟨bh, 0, none⟩), .int .u32 m.line] ∧ Blk w be 147 (entA (Ent.mk o sh true asks kind waits told q) (.slice Q q.length qc)) ∧ Blk w b1 35 (msgE.arr m) ∧ True) ?_
 intro w6 hN7
 replace hW := (hW.new hN3).new hN7
 replace hE := (hE.new hN3).new hN7
 replace B4 := B4.new hN7
 have hS9 := And.intro hW (And.intro hE (And.intro B4 trivial))
 refine Zhm 0 hS9 ?_
 refine Zhc 1 hS9 ?_
 refine Zhf 2 fo176_1 hS9 ?_
 refine Zhl 3 pl144 hS9 (fun _ ⟨hW, _⟩ => (hW.cell 1 rfl)) ?_
 refine Zhc 4 hS9 ?_
 refine Zhf 5 fo147_2 hS9 ?_
 refine Zhl (v := .bool true) 6 pl4 hS9 (fun _ ⟨_, hE, _⟩ => (hE.cell 5 rfl)) ?_
 refine Zhm 7 hS9 ?_
 refine Zhm 8 hS9 ?_
 refine Zhc 9 hS9 ?_
 refine Zhf 10 fo176_1 hS9 ?_
 refine Zhl 11 pl144 hS9 (fun _ ⟨hW, _⟩ => (hW.cell 1 rfl)) ?_
 refine Zhc 12 hS9 ?_
 refine Zhf 13 fo147_5 hS9 ?_
 refine Zhl (v := .int .i64 waits) 14 pl3 hS9 (fun _ ⟨_, hE, _⟩ => (hE.cell 8 rfl)) ?_
 refine Zht 15 rfl (.bool true) hS9 (fun _ fr _ _ => x_gtr rfl (fr.ev rfl) rfl (decide_eq_true hw)) ?_
 refine Zht 16 rfl (.bool true) hS9 (fun _ fr _ _ => x_pick_t rfl (fr.ev rfl) (fr.ev rfl)) ?_
 refine Zhm 17 hS9 ?_
 refine Zhm 18 hS9 ?_
 refine Zhc 19 hS9 ?_
 refine Zhf 20 fo176_1 hS9 ?_
 refine Zhl 21 pl144 hS9 (fun _ ⟨hW, _⟩ => (hW.cell 1 rfl)) ?_
 refine Zhc 22 hS9 ?_
 refine Zhf 23 fo147_0 hS9 ?_
 refine Zhl (v := .int .i64 o) 24 pl3 hS9 (fun _ ⟨_, hE, _⟩ => (hE.cell 0 rfl)) ?_
 refine Zhf 25 fo35_1 hS9 ?_
 refine Zhl (v := .int .i64 m.src) 26 pl3 hS9 (fun _ ⟨_, _, B4, _⟩ => (B4.cell 1 rfl)) ?_
 refine Zht 27 rfl (.bool true) hS9 (fun _ fr _ _ => x_eql rfl (fr.ev rfl) (fr.ev rfl) (decide_eq_true ho)) ?_
 refine Zht 28 rfl (.bool true) hS9 (fun _ fr _ _ => x_pick_t rfl (fr.ev rfl) (fr.ev rfl)) ?_
 refine Zh1 29 ?_
 refine Zk cf100 (hmust_ok 220 _) ?_
 rintro v w9 ⟨rfl, hw9⟩
 obtain rfl := hw9.symm
 refine Zhb ⟨hW, hE, B4, trivial⟩ ?_
 refine Zhn ?_
 refine Znx ?_
 refine Zsq ?_
 refine Zhd (n := 14) (fun w => Blk w bw 176 #[.slice A out.length ac, .pointer (some ⟨be, 0, none⟩), .pointer (some ⟨bh, 0, none⟩), .int .u32 m.line] ∧ Blk w bh 140 #[.pointer (some ⟨bi, 0, none⟩), .map (some r)] ∧ Blk w b1 35 (msgE.arr m) ∧ True) ?_
 intro w10 hN11
 replace hH := ((hH.new hN3).new hN7).new hN11
 replace hW := hW.new hN11
 replace B4 := B4.new hN11
 have hS9 := And.intro hW (And.intro hH (And.intro B4 trivial))
 refine Zhm 0 hS9 ?_
 refine Zhc 1 hS9 ?_
 refine Zhf 2 fo176_2 hS9 ?_
 refine Zhl 3 pl90 hS9 (fun _ ⟨hW, _⟩ => (hW.cell 2 rfl)) ?_
 refine Zhc 4 hS9 ?_
 refine Zhf 5 fo140_0 hS9 ?_
 refine Zhl 6 pl87 hS9 (fun _ ⟨_, hH, _⟩ => (hH.cell 0 rfl)) ?_
 refine Zhm 7 hS9 ?_
 refine Zhc 8 hS9 ?_
 refine Zhf 9 fo176_3 hS9 ?_
 refine Zhl (v := .int .u32 m.line) 10 pl32 hS9 (fun _ ⟨hW, _⟩ => (hW.cell 3 rfl)) ?_
 refine Zhf 11 fo35_4 hS9 ?_
 refine ZhE (p := m.bs) 12 bsE ag22 hS9 (fun _ ⟨_, _, B4, _⟩ => (B4.part (msg_bs _))) ?_
 refine Zh1 13 ?_
 replace hI := ((hI.new hN3).new hN7).new hN11
 refine Zk (args := #[.pointer (some ⟨bi, 0, none⟩), .int .u32 m.line, .agg (bsE.arr m.bs)]) cf101 (hset_c m.line m.bs (by omega) hI) ?_
 rintro v w13 ⟨rfl, hIn12, hN14⟩
 replace hI := hIn12
 clear hIn12
 replace hW := hW.only hN14 ne_bw_ig
 replace hH := hH.only hN14 ne_bh_ig
 replace B4 := B4.only hN14 ne_ig_b1.symm
 refine Zhb ⟨hW, hH, B4, trivial⟩ ?_
 refine Zhn ?_
 refine Znx ?_
 refine Zsm ?_
 refine Zn ?_
 refine Zf fo176_1 ?_
 refine Zd pl144 (hW.cell 1 rfl) ?_
 refine Zn ?_
 refine Zf fo147_5 ?_
 replace hE := (hE.new hN11).only hN14 ne_be_ig
 refine Zs1 (cs' := entA ({ (Ent.mk o sh true asks kind waits told q) with waits := 0 }) (.slice Q q.length qc)) sz3 hE (show 8 < 11 by decide) rfl fun w15 hO16 hE => ?_
 refine Znq ?_
 refine Zsm ?_
 refine Zn ?_
 refine Zf fo176_1 ?_
 replace hW := hW.only hO16 ne_bw_be
 refine Zd pl144 (hW.cell 1 rfl) ?_
 refine Zn ?_
 refine Zf fo147_4 ?_
 refine Zd (v := .int .i64 kind) pl33 (hE.cell 7 rfl) ?_
 refine Zv _ (fun _ fr => x_eql rfl (fr.ev rfl) rfl rfl) ?_
 refine Znn ?_
 refine Zcd (fun hc17 => ?_) (fun hc17 => ?_)
 ·have hc17 := of_decide_eq_true hc17
  refine Zsm ?_
  replace hQ := ((((hQ.new hN3).new hN7).new hN11).only hN14 (Apart.ne1 ap_Q_ig)).only hO16 (Apart.ne1 ap_Q_be)
  replace hO := ((((hO.new hN3).new hN7).new hN11).only hN14 (Apart.ne1 ap_A_ig)).only hO16 (Apart.ne1 ap_A_be)
  replace hH := hH.only hO16 ne_be_bh.symm
  replace hI := hI.only hO16 ne_be_bi.symm ne_be_ig.symm
  refine Zk (args := #[.pointer (some ⟨bw, 0, none⟩)]) cf102 (hwrite_c ⟨hW, hE, hH, hI, hQ, hO, ⟨ne_bw_be, ne_bw_bh, ne_bw_bi, ne_bw_ig, ne_be_bh, ne_be_bi, ne_be_ig, ne_bh_bi, ne_bh_ig, ne_bi_ig, ap_Q_bw, ap_Q_be, ap_Q_bh, ap_Q_bi, ap_Q_ig, ap_A_bw, ap_A_be, ap_A_bh, ap_A_bi, ap_A_ig, ap2_Q_A⟩⟩ m.hn (by first | omega | (simp only [List.length_append, List.length_cons, List.length_nil, List.length_map, List.length_take]; omega))) ?_
  rintro v w23 ⟨rfl, A18, ac19, R20, mv21, hN24⟩
  replace hF := ((((hF.trNew hN3).trNew hN7).trNew hN11).loc hN14 (.inl (.inr (.inr (.inl rfl))))).loc hO16 (.inl (.inr (.inl rfl)))
  have gA_A18 := gA_moved hF mv21 gA_A
  clear hW hE hH hI hQ hO
  obtain ⟨hW, hE, hH, hI, hQ, O22, hS⟩ := R20
  have ap_A18_bw := hS.ap_A_bw
  have ap_A18_be := hS.ap_A_be
  have ap_A18_bh := hS.ap_A_bh
  have ap_A18_bi := hS.ap_A_bi
  have ap_A18_ig := hS.ap_A_ig
  have ap2_Q_A18 := hS.ap2_Q_A
  refine Znn ?_
  refine Zrt ?_
  refine Zr1 ?_
  refine Zre rfl [] trivial ?_
  rw [other_b2 hk (show ¬ kind = 1 by omega)]
  replace hF := hF.locS hN24 (fun i => (fun h => h.elim (fun e => by rw [e]; exact (.inl (.inl rfl))) (fun h => h.elim (fun e => by rw [e]; exact (.inl (.inr (.inl rfl)))) (fun h => h.elim (fun e => by rw [e]; exact (.inl (.inr (.inr (.inl rfl))))) (fun h => gA_A i h)))))
  exact ⟨_, rfl, rfl, Q, qc, A18, ac19, ⟨hW, hE, hH, hI, hQ, O22, ⟨ne_bw_be, ne_bw_bh, ne_bw_bi, ne_bw_ig, ne_be_bh, ne_be_bi, ne_be_ig, ne_bh_bi, ne_bh_ig, ne_bi_ig, ap_Q_bw, ap_Q_be, ap_Q_bh, ap_Q_bi, ap_Q_ig, ap_A18_bw, ap_A18_be, ap_A18_bh, ap_A18_bi, ap_A18_ig, ap2_Q_A18⟩⟩, hmv gA_A18 ap_A18_bw ap_A18_be ap_A18_ig, hmv gA_Q ap_Q_bw ap_Q_be ap_Q_ig, hF⟩
 ·have hc17 := of_decide_eq_false hc17
  refine Zkn ?_
  refine Zsm ?_
  refine Zk cf103 (own_c hW hE ne_bw_be (-1)) ?_
  rintro v w26 ⟨rfl, hEn25, hN27⟩
  replace hE := hEn25
  clear hEn25
  refine Znq ?_
  refine Zhd (n := 25) (fun w => Blk w bw 176 #[.slice A out.length ac, .pointer (some ⟨be, 0, none⟩), .pointer (some ⟨bh, 0, none⟩), .int .u32 m.line] ∧ Blk w b1 35 (msgE.arr m) ∧ True) ?_
  intro w28 hN29
  replace B4 := ((B4.only hO16 ne_be_b1.symm).only hN27 ne_be_b1.symm).new hN29
  replace hW := (hW.only hN27 ne_bw_be).new hN29
  have hS9 := And.intro hW (And.intro B4 trivial)
  refine Zhm 0 hS9 ?_
  refine Zhc 1 hS9 ?_
  refine Zhf 2 fo176_1 hS9 ?_
  refine Zhl 3 pl144 hS9 (fun _ ⟨hW, _⟩ => (hW.cell 1 rfl)) ?_
  refine Zhf 4 fo35_1 hS9 ?_
  refine Zhl (v := .int .i64 m.src) 5 pl3 hS9 (fun _ ⟨_, B4, _⟩ => (B4.cell 1 rfl)) ?_
  refine Zhm 6 hS9 ?_
  refine Zhc 7 hS9 ?_
  refine Zhf 8 fo176_1 hS9 ?_
  refine Zhl 9 pl144 hS9 (fun _ ⟨hW, _⟩ => (hW.cell 1 rfl)) ?_
  refine Zhm 10 hS9 ?_
  refine Zhc 11 hS9 ?_
  refine Zhf 12 fo176_1 hS9 ?_
  refine Zhl 13 pl144 hS9 (fun _ ⟨hW, _⟩ => (hW.cell 1 rfl)) ?_
  refine Zhc 14 hS9 ?_
  refine Zhf 15 fo147_3 hS9 ?_
  refine Zhc 17 hS9 ?_
  refine Zhf 18 fo147_1 hS9 ?_
  refine Zhc 21 hS9 ?_
  refine Zhf 22 fo147_1 hS9 ?_
  refine Zh1 16 ?_
  replace hE := hE.new hN29
  refine Zd (v := .int .i64 asks) pl3 (hE.cell 6 rfl) ?_
  refine Zhb ⟨hW, B4, trivial⟩ ?_
  have hS9 := And.intro hW (And.intro B4 trivial)
  refine Zht 19 rfl (.pointer (some ⟨be, 1 + m.src.toNat, none⟩)) hS9 (fun _ fr _ _ => x_indexArr Try.underlying145 sz4 rfl (fr.ev rfl) ((fr.ev rfl).trans (int_nat _ m.src (by omega))) (by omega) (by omega)) ?_
  refine Zh1 20 ?_
  refine Zs1 (cs' := entA ({ ownF ({ (Ent.mk o sh true asks kind waits told q) with waits := 0 }) (-1) with sh := sh0.set m.src true }) (.slice Q q.length qc)) sz4 hE (show 1 + m.src.toNat < 11 by omega) (ent_setSh _ _ m.src _ (by omega) (by omega)) fun w30 hO31 hE => ?_
  replace hW := hW.only hO31 ne_bw_be
  replace B4 := B4.only hO31 ne_be_b1.symm
  refine Zhb ⟨hW, B4, trivial⟩ ?_
  have hS9 := And.intro hW (And.intro B4 trivial)
  refine Zht 23 rfl (.pointer (some ⟨be, 1 + asks.toNat, none⟩)) hS9 (fun _ fr _ _ => x_indexArr Try.underlying145 sz4 rfl (fr.ev rfl) ((fr.ev rfl).trans (int_nat _ asks (by omega))) (by omega) (by omega)) ?_
  refine Zh1 24 ?_
  refine Zs1 (cs' := entA ({ { ownF ({ (Ent.mk o sh true asks kind waits told q) with waits := 0 }) (-1) with sh := sh0.set m.src true } with sh := (sh0.set m.src true).set asks true }) (.slice Q q.length qc)) sz4 hE (show 1 + asks.toNat < 11 by omega) (ent_setSh _ _ asks _ (by omega) (by omega)) fun w32 hO33 hE => ?_
  replace hW := hW.only hO33 ne_bw_be
  replace B4 := B4.only hO33 ne_be_b1.symm
  refine Zhb ⟨hW, B4, trivial⟩ ?_
  refine Zhn ?_
  refine Znx ?_
  refine Zsm ?_
  refine Zm ?_
  refine Zn ?_
  refine Zf fo176_1 ?_
  refine Zd pl144 (hW.cell 1 rfl) ?_
  refine Zn ?_
  refine Zf fo147_3 ?_
  refine Zd (v := .int .i64 asks) pl3 (hE.cell 6 rfl) ?_
  replace hO := ((((((((hO.new hN3).new hN7).new hN11).only hN14 (Apart.ne1 ap_A_ig)).only hO16 (Apart.ne1 ap_A_be)).only hN27 (Apart.ne1 ap_A_be)).new hN29).only hO31 (Apart.ne1 ap_A_be)).only hO33 (Apart.ne1 ap_A_be)
  replace hH := ((((hH.only hO16 ne_be_bh.symm).only hN27 ne_be_bh.symm).new hN29).only hO31 ne_be_bh.symm).only hO33 ne_be_bh.symm
  replace hI := ((((hI.only hO16 ne_be_bi.symm ne_be_ig.symm).only hN27 ne_be_bi.symm ne_be_ig.symm).new hN29).only hO31 ne_be_bi.symm ne_be_ig.symm).only hO33 ne_be_bi.symm ne_be_ig.symm
  refine Zk (args := #[.pointer (some ⟨bw, 0, none⟩), .int .i64 8, .int .i64 asks, .bool true]) cf104 (send_b m.hn hW hH hI hO ne_bw_bh ne_bw_bi ne_bw_ig ap_A_bw ap_A_bh ap_A_bi ap_A_ig (by first | omega | (simp only [List.length_append, List.length_cons, List.length_nil, List.length_map, List.length_take]; omega)) 8 asks) ?_
  rintro v w39 ⟨rfl, A34, ac35, hWn36, O37, mv38, hN40⟩
  have ap_A34_bw : Apart A34 bw := moved_apart mv38 ap_A_bw hW.lt
  have ap_A34_bh : Apart A34 bh := moved_apart mv38 ap_A_bh hH.lt
  replace hQ := ((((((((hQ.new hN3).new hN7).new hN11).only hN14 (Apart.ne1 ap_Q_ig)).only hO16 (Apart.ne1 ap_Q_be)).only hN27 (Apart.ne1 ap_Q_be)).new hN29).only hO31 (Apart.ne1 ap_Q_be)).only hO33 (Apart.ne1 ap_Q_be)
  have ap2_A34_Q : Apart2 A34 Q := moved_apart2 mv38 ap2_Q_A.symm fun _ hg => hQ.lt hg
  have ap_A34_bi : Apart A34 bi := moved_apart mv38 ap_A_bi hI.lt.1
  have ap_A34_ig : Apart A34 ig := moved_apart mv38 ap_A_ig hI.lt.2
  have ap_A34_be : Apart A34 be := moved_apart mv38 ap_A_be hE.lt
  replace hF := ((((((((hF.trNew hN3).trNew hN7).trNew hN11).loc hN14 (.inl (.inr (.inr (.inl rfl))))).loc hO16 (.inl (.inr (.inl rfl)))).loc hN27 (.inl (.inr (.inl rfl)))).trNew hN29).loc hO31 (.inl (.inr (.inl rfl)))).loc hO33 (.inl (.inr (.inl rfl)))
  have gA_A34 := gA_moved hF mv38 gA_A
  clear hW hO
  have hW := hWn36
  clear hWn36
  refine Znn ?_
  refine Zgm ?_
  refine Zn ?_
  refine Zf fo176_1 ?_
  refine Zd pl144 (hW.cell 1 rfl) ?_
  refine Zn ?_
  refine Zf fo147_6 ?_
  replace hE := hE.only hN40 (fun h => h.elim ne_bw_be.symm ap_A_be)
  refine Zs1 (cs' := entA ({ { { ownF ({ (Ent.mk o sh true asks kind waits told q) with waits := 0 }) (-1) with sh := sh0.set m.src true } with sh := (sh0.set m.src true).set asks true } with told := true }) (.slice Q q.length qc)) sz4 hE (show 9 < 11 by decide) rfl fun w41 hO42 hE => ?_
  refine Znl ?_
  refine Zee rfl [] trivial ?_
  rw [other_b1 hk (show kind = 1 by omega)]
  replace hH := (hH.only hN40 (fun h => h.elim ne_bw_bh.symm ap_A_bh)).only hO42 ne_be_bh.symm
  replace hQ := (hQ.only hN40 (fun g hg => (fun h => h.elim ((Apart.ne1 ap_Q_bw) g hg) ((fun g h1 h2 => ap2_Q_A g h1 h2) g hg)))).only hO42 (Apart.ne1 ap_Q_be)
  replace hI := (hI.only hN40 (fun h => h.elim ne_bw_bi.symm ap_A_bi) (fun h => h.elim ne_bw_ig.symm ap_A_ig)).only hO42 ne_be_bi.symm ne_be_ig.symm
  replace hF := (hF.loc2 hN40 (.inl (.inl rfl)) gA_A).loc hO42 (.inl (.inr (.inl rfl)))
  replace hW := hW.only hO42 ne_bw_be
  replace O37 := O37.only hO42 (Apart.ne1 ap_A34_be)
  exact ⟨_, rfl, rfl, Q, qc, A34, ac35, ⟨hW, hE, hH, hI, hQ, O37, ⟨ne_bw_be, ne_bw_bh, ne_bw_bi, ne_bw_ig, ne_be_bh, ne_be_bi, ne_be_ig, ne_bh_bi, ne_bh_ig, ne_bi_ig, ap_Q_bw, ap_Q_be, ap_Q_bh, ap_Q_bi, ap_Q_ig, ap_A34_bw, ap_A34_be, ap_A34_bh, ap_A34_bi, ap_A34_ig, ap2_A34_Q.symm⟩⟩, hmv gA_A34 ap_A34_bw ap_A34_be ap_A34_ig, hmv gA_Q ap_Q_bw ap_Q_be ap_Q_ig, hF⟩
theorem ack_ok {w : World} {bw be bh bi ig cap r : Nat} {o : Int} {sh : Sh} {asks : Int} {kind : Int} {waits : Int} {told : Bool} {q : List Msg} {Q : Option Addr} {qc : Nat} {A : Option Addr} {ac : Nat} {out : List Msg} {bs : List UInt8} (m : Msg) (R : WorkR w bw be bh bi ig cap r m.line (Ent.mk o sh true asks kind waits told q) Q qc A ac out bs) (hlen : out.length + 8 ≤ 1000000) (hsrc : 0 ≤ m.src ∧ m.src < 4) (hask : 0 ≤ asks ∧ asks < 4) (hk : m.kind = 12) (hw : 0 < waits ∧ waits ≤ 4) (ho : o < 0) (hg : sh.get m.src = true) (hne : m.src ≠ asks) : Calls Try.prog 90 #[.pointer (some ⟨bw, 0, none⟩), .agg (msgE.arr m)] w (Ret fun v w' => v = .tuple #[] ∧ HRet w w' bw be bh bi ig cap r m.line Q A out (otherF bs (Ent.mk o sh true asks kind waits told q) m)) := by
 obtain ⟨hW, hE, hH, hI, hQ, hO, hS⟩ := R
 have ne_bw_be := hS.ne_bw_be
 have ne_bw_bh := hS.ne_bw_bh
 have ne_bw_bi := hS.ne_bw_bi
 have ne_bw_ig := hS.ne_bw_ig
 have ne_be_bh := hS.ne_be_bh
 have ne_be_bi := hS.ne_be_bi
 have ne_be_ig := hS.ne_be_ig
 have ne_bh_bi := hS.ne_bh_bi
 have ne_bh_ig := hS.ne_bh_ig
 have ne_bi_ig := hS.ne_bi_ig
 have ap_Q_bw := hS.ap_Q_bw
 have ap_Q_be := hS.ap_Q_be
 have ap_Q_bh := hS.ap_Q_bh
 have ap_Q_bi := hS.ap_Q_bi
 have ap_Q_ig := hS.ap_Q_ig
 have ap_A_bw := hS.ap_A_bw
 have ap_A_be := hS.ap_A_be
 have ap_A_bh := hS.ap_A_bh
 have ap_A_bi := hS.ap_A_bi
 have ap_A_ig := hS.ap_A_ig
 have ap2_Q_A := hS.ap2_Q_A
 have gA_A : ∀ g, inA A g → (g = bw ∨ g = be ∨ g = ig ∨ inA A g ∨ inA Q g) ∨ w.heap.size ≤ g := fun g hg => .inl (.inr (.inr (.inr (.inl hg))))
 have hmn := m.hn
 have gA_Q : ∀ g, inA Q g → (g = bw ∨ g = be ∨ g = ig ∨ inA A g ∨ inA Q g) ∨ w.heap.size ≤ g := fun g hg => .inl (.inr (.inr (.inr (.inr hg))))
 have hF := Only.refl (fun k => k = bw ∨ k = be ∨ k = ig ∨ inA A k ∨ inA Q k) w
 refine Zen 85 Try.func90 ?_
 refine Zsr ?_
 refine Znb (cs := msgE.arr m) fun b1 w2 hN3 B4 hb5 => ?_
 have ne_be_b1 := nelt hE.lt hb5
 refine Znq ?_
 refine Zhd (n := 52) (fun w => Blk w bw 176 #[.slice A out.length ac, .pointer (some ⟨be, 0, none⟩), .pointer (some ⟨bh, 0, none⟩), .int .u32 m.line] ∧ Blk w be 147 (entA (Ent.mk o sh true asks kind waits told q) (.slice Q q.length qc)) ∧ Blk w b1 35 (msgE.arr m) ∧ True) ?_
 intro w6 hN7
 replace hW := (hW.new hN3).new hN7
 replace hE := (hE.new hN3).new hN7
 replace B4 := B4.new hN7
 have hS9 := And.intro hW (And.intro hE (And.intro B4 trivial))
 refine Zhm 0 hS9 ?_
 refine Zhc 1 hS9 ?_
 refine Zhf 2 fo176_1 hS9 ?_
 refine Zhl 3 pl144 hS9 (fun _ ⟨hW, _⟩ => (hW.cell 1 rfl)) ?_
 refine Zhc 4 hS9 ?_
 refine Zhf 5 fo147_2 hS9 ?_
 refine Zhl (v := .bool true) 6 pl4 hS9 (fun _ ⟨_, hE, _⟩ => (hE.cell 5 rfl)) ?_
 refine Zhm 7 hS9 ?_
 refine Zhm 8 hS9 ?_
 refine Zhc 9 hS9 ?_
 refine Zhf 10 fo176_1 hS9 ?_
 refine Zhl 11 pl144 hS9 (fun _ ⟨hW, _⟩ => (hW.cell 1 rfl)) ?_
 refine Zhc 12 hS9 ?_
 refine Zhf 13 fo147_5 hS9 ?_
 refine Zhl (v := .int .i64 waits) 14 pl3 hS9 (fun _ ⟨_, hE, _⟩ => (hE.cell 8 rfl)) ?_
 refine Zht 15 rfl (.bool true) hS9 (fun _ fr _ _ => x_gtr rfl (fr.ev rfl) rfl (decide_eq_true hw.1)) ?_
 refine Zht 16 rfl (.bool true) hS9 (fun _ fr _ _ => x_pick_t rfl (fr.ev rfl) (fr.ev rfl)) ?_
 refine Zhm 17 hS9 ?_
 refine Zhm 18 hS9 ?_
 refine Zhc 19 hS9 ?_
 refine Zhf 20 fo176_1 hS9 ?_
 refine Zhl 21 pl144 hS9 (fun _ ⟨hW, _⟩ => (hW.cell 1 rfl)) ?_
 refine Zhc 22 hS9 ?_
 refine Zhf 23 fo147_0 hS9 ?_
 refine Zhl (v := .int .i64 o) 24 pl3 hS9 (fun _ ⟨_, hE, _⟩ => (hE.cell 0 rfl)) ?_
 refine Zht 25 rfl (.bool true) hS9 (fun _ fr _ _ => x_lss rfl (fr.ev rfl) rfl (decide_eq_true ho)) ?_
 refine Zht 26 rfl (.bool true) hS9 (fun _ fr _ _ => x_pick_t rfl (fr.ev rfl) (fr.ev rfl)) ?_
 refine Zhm 27 hS9 ?_
 refine Zhm 28 hS9 ?_
 refine Zhc 29 hS9 ?_
 refine Zhf 30 fo176_1 hS9 ?_
 refine Zhl 31 pl144 hS9 (fun _ ⟨hW, _⟩ => (hW.cell 1 rfl)) ?_
 refine Zhf 32 fo35_1 hS9 ?_
 refine Zhl (v := .int .i64 m.src) 33 pl3 hS9 (fun _ ⟨_, _, B4, _⟩ => (B4.cell 1 rfl)) ?_
 refine Zhc 34 hS9 ?_
 refine Zhf 35 fo147_1 hS9 ?_
 refine Zht 36 rfl (.pointer (some ⟨be, 1 + m.src.toNat, none⟩)) hS9 (fun _ fr _ _ => x_indexArr Try.underlying145 sz4 rfl (fr.ev rfl) ((fr.ev rfl).trans (int_nat _ m.src (by omega))) (by omega) (by omega)) ?_
 refine Zhl (v := .bool true) 37 pl4 hS9 (fun _ ⟨_, hE, _⟩ => ((hE.cell _ (ent_sh _ _ m.src (by omega) (by omega))).trans (by rw [hg]))) ?_
 refine Zht 38 rfl (.bool true) hS9 (fun _ fr _ _ => x_pick_t rfl (fr.ev rfl) (fr.ev rfl)) ?_
 refine Zhm 39 hS9 ?_
 refine Zhf 40 fo35_1 hS9 ?_
 refine Zhl (v := .int .i64 m.src) 41 pl3 hS9 (fun _ ⟨_, _, B4, _⟩ => (B4.cell 1 rfl)) ?_
 refine Zhm 42 hS9 ?_
 refine Zhc 43 hS9 ?_
 refine Zhf 44 fo176_1 hS9 ?_
 refine Zhl 45 pl144 hS9 (fun _ ⟨hW, _⟩ => (hW.cell 1 rfl)) ?_
 refine Zhc 46 hS9 ?_
 refine Zhf 47 fo147_3 hS9 ?_
 refine Zhl (v := .int .i64 asks) 48 pl3 hS9 (fun _ ⟨_, hE, _⟩ => (hE.cell 6 rfl)) ?_
 refine Zht 49 rfl (.bool true) hS9 (fun _ fr _ _ => x_neq rfl (fr.ev rfl) (fr.ev rfl) (decide_eq_true hne)) ?_
 refine Zht 50 rfl (.bool true) hS9 (fun _ fr _ _ => x_pick_t rfl (fr.ev rfl) (fr.ev rfl)) ?_
 refine Zh1 51 ?_
 refine Zk cf100 (hmust_ok 220 _) ?_
 rintro v w9 ⟨rfl, hw9⟩
 obtain rfl := hw9.symm
 refine Zhb ⟨hW, hE, B4, trivial⟩ ?_
 refine Zhn ?_
 refine Znx ?_
 refine Zsq ?_
 refine Zhd (n := 10) (fun w => Blk w bw 176 #[.slice A out.length ac, .pointer (some ⟨be, 0, none⟩), .pointer (some ⟨bh, 0, none⟩), .int .u32 m.line] ∧ Blk w b1 35 (msgE.arr m) ∧ True) ?_
 intro w10 hN11
 replace hW := hW.new hN11
 replace B4 := B4.new hN11
 have hS9 := And.intro hW (And.intro B4 trivial)
 refine Zhm 0 hS9 ?_
 refine Zhc 1 hS9 ?_
 refine Zhf 2 fo176_1 hS9 ?_
 refine Zhl 3 pl144 hS9 (fun _ ⟨hW, _⟩ => (hW.cell 1 rfl)) ?_
 refine Zhf 4 fo35_1 hS9 ?_
 refine Zhl (v := .int .i64 m.src) 5 pl3 hS9 (fun _ ⟨_, B4, _⟩ => (B4.cell 1 rfl)) ?_
 refine Zhc 6 hS9 ?_
 refine Zhf 7 fo147_1 hS9 ?_
 refine Zht 8 rfl (.pointer (some ⟨be, 1 + m.src.toNat, none⟩)) hS9 (fun _ fr _ _ => x_indexArr Try.underlying145 sz4 rfl (fr.ev rfl) ((fr.ev rfl).trans (int_nat _ m.src (by omega))) (by omega) (by omega)) ?_
 refine Zh1 9 ?_
 replace hE := hE.new hN11
 refine Zs1 (cs' := entA ({ (Ent.mk o sh true asks kind waits told q) with sh := sh.set m.src false }) (.slice Q q.length qc)) sz4 hE (show 1 + m.src.toNat < 11 by omega) (ent_setSh _ _ m.src _ (by omega) (by omega)) fun w12 hO13 hE => ?_
 replace hW := hW.only hO13 ne_bw_be
 replace B4 := B4.only hO13 ne_be_b1.symm
 refine Zhb ⟨hW, B4, trivial⟩ ?_
 refine Zhn ?_
 refine Znx ?_
 refine Zsm ?_
 refine Zn ?_
 refine Zf fo176_1 ?_
 refine Zd pl144 (hW.cell 1 rfl) ?_
 refine Zn ?_
 refine Zf fo147_5 ?_
 refine Zd (v := .int .i64 waits) pl3 (hE.cell 8 rfl) ?_
 refine Zv _ (fun _ fr => x_sub rfl (fr.ev rfl) rfl (i64w (r := waits - 1) (by omega) (by omega))) ?_
 refine Zn ?_
 refine Zf fo147_5 ?_
 refine Zs1 (cs' := entA ({ { (Ent.mk o sh true asks kind waits told q) with sh := sh.set m.src false } with waits := waits - 1 }) (.slice Q q.length qc)) sz3 hE (show 8 < 11 by decide) rfl fun w14 hO15 hE => ?_
 refine Znn ?_
 refine Zsm ?_
 refine Zn ?_
 refine Zf fo176_1 ?_
 replace hW := hW.only hO15 ne_bw_be
 refine Zd pl144 (hW.cell 1 rfl) ?_
 refine Zn ?_
 refine Zf fo147_5 ?_
 refine Zd (v := .int .i64 (waits - 1)) pl3 (hE.cell 8 rfl) ?_
 refine Zv _ (fun _ fr => x_eql rfl (fr.ev rfl) rfl rfl) ?_
 refine Znn ?_
 refine Zcd (fun hc16 => ?_) (fun hc16 => ?_)
 ·have hc16 := of_decide_eq_true hc16
  refine Zgm ?_
  replace hH := ((((hH.new hN3).new hN7).new hN11).only hO13 ne_be_bh.symm).only hO15 ne_be_bh.symm
  replace hI := ((((hI.new hN3).new hN7).new hN11).only hO13 ne_be_bi.symm ne_be_ig.symm).only hO15 ne_be_bi.symm ne_be_ig.symm
  replace hQ := ((((hQ.new hN3).new hN7).new hN11).only hO13 (Apart.ne1 ap_Q_be)).only hO15 (Apart.ne1 ap_Q_be)
  replace hO := ((((hO.new hN3).new hN7).new hN11).only hO13 (Apart.ne1 ap_A_be)).only hO15 (Apart.ne1 ap_A_be)
  refine Zk (args := #[.pointer (some ⟨bw, 0, none⟩)]) cf102 (hwrite_c ⟨hW, hE, hH, hI, hQ, hO, ⟨ne_bw_be, ne_bw_bh, ne_bw_bi, ne_bw_ig, ne_be_bh, ne_be_bi, ne_be_ig, ne_bh_bi, ne_bh_ig, ne_bi_ig, ap_Q_bw, ap_Q_be, ap_Q_bh, ap_Q_bi, ap_Q_ig, ap_A_bw, ap_A_be, ap_A_bh, ap_A_bi, ap_A_ig, ap2_Q_A⟩⟩ m.hn (by first | omega | (simp only [List.length_append, List.length_cons, List.length_nil, List.length_map, List.length_take]; omega))) ?_
  rintro v w22 ⟨rfl, A17, ac18, R19, mv20, hN23⟩
  replace hF := ((((hF.trNew hN3).trNew hN7).trNew hN11).loc hO13 (.inl (.inr (.inl rfl)))).loc hO15 (.inl (.inr (.inl rfl)))
  have gA_A17 := gA_moved hF mv20 gA_A
  clear hW hE hH hI hQ hO
  obtain ⟨hW, hE, hH, hI, hQ, O21, hS⟩ := R19
  have ap_A17_bw := hS.ap_A_bw
  have ap_A17_be := hS.ap_A_be
  have ap_A17_bh := hS.ap_A_bh
  have ap_A17_bi := hS.ap_A_bi
  have ap_A17_ig := hS.ap_A_ig
  have ap2_Q_A17 := hS.ap2_Q_A
  refine Znl ?_
  refine Zee rfl [] trivial ?_
  rw [other_a1 hk (show waits = 1 by omega)]
  rw [show waits - 1 = 0 from hc16] at hE
  replace hF := hF.locS hN23 (fun i => (fun h => h.elim (fun e => by rw [e]; exact (.inl (.inl rfl))) (fun h => h.elim (fun e => by rw [e]; exact (.inl (.inr (.inl rfl)))) (fun h => h.elim (fun e => by rw [e]; exact (.inl (.inr (.inr (.inl rfl))))) (fun h => gA_A i h)))))
  exact ⟨_, rfl, rfl, Q, qc, A17, ac18, ⟨hW, hE, hH, hI, hQ, O21, ⟨ne_bw_be, ne_bw_bh, ne_bw_bi, ne_bw_ig, ne_be_bh, ne_be_bi, ne_be_ig, ne_bh_bi, ne_bh_ig, ne_bi_ig, ap_Q_bw, ap_Q_be, ap_Q_bh, ap_Q_bi, ap_Q_ig, ap_A17_bw, ap_A17_be, ap_A17_bh, ap_A17_bi, ap_A17_ig, ap2_Q_A17⟩⟩, hmv gA_A17 ap_A17_bw ap_A17_be ap_A17_ig, hmv gA_Q ap_Q_bw ap_Q_be ap_Q_ig, hF⟩
 ·have hc16 := of_decide_eq_false hc16
  refine Zsk ?_
  refine Zee rfl [] trivial ?_
  rw [other_a2 hk (show ¬ waits = 1 by omega)]
  refine ⟨_, rfl, rfl, ?_⟩
  unfold HRet
  rw [List.append_nil]
  replace hH := ((((hH.new hN3).new hN7).new hN11).only hO13 ne_be_bh.symm).only hO15 ne_be_bh.symm
  replace hI := ((((hI.new hN3).new hN7).new hN11).only hO13 ne_be_bi.symm ne_be_ig.symm).only hO15 ne_be_bi.symm ne_be_ig.symm
  replace hQ := ((((hQ.new hN3).new hN7).new hN11).only hO13 (Apart.ne1 ap_Q_be)).only hO15 (Apart.ne1 ap_Q_be)
  replace hO := ((((hO.new hN3).new hN7).new hN11).only hO13 (Apart.ne1 ap_A_be)).only hO15 (Apart.ne1 ap_A_be)
  replace hF := ((((hF.trNew hN3).trNew hN7).trNew hN11).loc hO13 (.inl (.inr (.inl rfl)))).loc hO15 (.inl (.inr (.inl rfl)))
  exact ⟨Q, qc, A, ac, ⟨hW, hE, hH, hI, hQ, hO, ⟨ne_bw_be, ne_bw_bh, ne_bw_bi, ne_bw_ig, ne_be_bh, ne_be_bi, ne_be_ig, ne_bh_bi, ne_bh_ig, ne_bi_ig, ap_Q_bw, ap_Q_be, ap_Q_bh, ap_Q_bi, ap_Q_ig, ap_A_bw, ap_A_be, ap_A_bh, ap_A_bi, ap_A_ig, ap2_Q_A⟩⟩, hmv gA_A ap_A_bw ap_A_be ap_A_ig, hmv gA_Q ap_Q_bw ap_Q_be ap_Q_ig, hF⟩
theorem back_no {w : World} {bw be bh bi ig cap r : Nat} {d : Ent} {Q : Option Addr} {qc : Nat} {A : Option Addr} {ac : Nat} {out : List Msg} {bs : List UInt8} (m : Msg) (R : WorkR w bw be bh bi ig cap r m.line d Q qc A ac out bs) (hlen : out.length + 8 ≤ 1000000) (hsrc : 0 ≤ m.src ∧ m.src < 4) (hk : m.kind = 11) (hs : strayF d m = true) : Calls Try.prog 89 #[.pointer (some ⟨bw, 0, none⟩), .agg (msgE.arr m)] w (Pan fun c w' => c = hstopE 220 ∧ New w w') := by
 obtain ⟨hW, hE, hH, hI, hQ, hO, hS⟩ := R
 have hmn := m.hn
 have hF := Only.refl (fun _ => False) w
 refine Zen 104 Try.func89 ?_
 refine Zsr ?_
 refine Znb (cs := msgE.arr m) fun b1 w2 hN3 B4 hb5 => ?_
 refine Znq ?_
 refine Zhd (n := 30) (fun w => Blk w bw 176 #[.slice A out.length ac, .pointer (some ⟨be, 0, none⟩), .pointer (some ⟨bh, 0, none⟩), .int .u32 m.line] ∧ Blk w be 147 (entA d (.slice Q d.q.length qc)) ∧ Blk w b1 35 (msgE.arr m) ∧ True) ?_
 intro w6 hN7
 replace hW := (hW.new hN3).new hN7
 replace hE := (hE.new hN3).new hN7
 replace B4 := B4.new hN7
 have hS9 := And.intro hW (And.intro hE (And.intro B4 trivial))
 refine Zhm 0 hS9 ?_
 refine Zhc 1 hS9 ?_
 refine Zhf 2 fo176_1 hS9 ?_
 refine Zhl 3 pl144 hS9 (fun _ ⟨hW, _⟩ => (hW.cell 1 rfl)) ?_
 refine Zhc 4 hS9 ?_
 refine Zhf 5 fo147_2 hS9 ?_
 refine Zhl (v := .bool d.busy) 6 pl4 hS9 (fun _ ⟨_, hE, _⟩ => (hE.cell 5 rfl)) ?_
 refine Zhm 7 hS9 ?_
 refine Zhy 8 rfl d.busy (.pointer (some ⟨bw, 0, none⟩)) hS9 (fun _ fr _ _ _ => x_move rfl (fr.ev rfl)) ?_
 refine Zhy 9 rfl d.busy (.pointer (some ⟨bw, 0, none⟩)) hS9 (fun _ fr hg _ _ => x_nilCheck rfl ((fr.ev rfl).trans (onlyIf_t hg))) ?_
 refine Zhy 10 rfl d.busy (.pointer (some ⟨bw, 1, none⟩)) hS9 (fun _ fr hg _ _ => x_fieldAddr fo176_1 rfl ((fr.ev rfl).trans (onlyIf_t hg)) rfl) ?_
 refine Zhy 11 rfl d.busy (.pointer (some ⟨be, 0, none⟩)) hS9 (fun _ fr hg _ ⟨hW, _⟩ => x_load1 pl144 rfl ((fr.ev rfl).trans (onlyIf_t hg)) (hW.cell 1 rfl)) ?_
 refine Zhy 12 rfl d.busy (.pointer (some ⟨be, 0, none⟩)) hS9 (fun _ fr hg _ _ => x_nilCheck rfl ((fr.ev rfl).trans (onlyIf_t hg))) ?_
 refine Zhy 13 rfl d.busy (.pointer (some ⟨be, 8, none⟩)) hS9 (fun _ fr hg _ _ => x_fieldAddr fo147_5 rfl ((fr.ev rfl).trans (onlyIf_t hg)) rfl) ?_
 refine Zhy 14 rfl d.busy (.int .i64 d.waits) hS9 (fun _ fr hg _ ⟨_, hE, _⟩ => x_load1 pl3 rfl ((fr.ev rfl).trans (onlyIf_t hg)) (hE.cell 8 rfl)) ?_
 refine Zhy 15 rfl d.busy (.bool (decide (0 < d.waits))) hS9 (fun _ fr hg _ _ => x_gtr rfl ((fr.ev rfl).trans (onlyIf_t hg)) rfl rfl) ?_
 refine Zht 16 rfl (.bool (d.busy && (decide (0 < d.waits)))) hS9 (fun _ fr _ _ => x_pick_and rfl (fr.ev rfl) (fun hb => ((fr.ev rfl)).trans (onlyIf_t (by simp_all))) (fun _ => rfl) rfl) ?_
 refine Zhm 17 hS9 ?_
 refine Zhy 18 rfl (d.busy && (decide (0 < d.waits))) (.pointer (some ⟨bw, 0, none⟩)) hS9 (fun _ fr _ _ _ => x_move rfl (fr.ev rfl)) ?_
 refine Zhy 19 rfl (d.busy && (decide (0 < d.waits))) (.pointer (some ⟨bw, 0, none⟩)) hS9 (fun _ fr hg _ _ => x_nilCheck rfl ((fr.ev rfl).trans (onlyIf_t hg))) ?_
 refine Zhy 20 rfl (d.busy && (decide (0 < d.waits))) (.pointer (some ⟨bw, 1, none⟩)) hS9 (fun _ fr hg _ _ => x_fieldAddr fo176_1 rfl ((fr.ev rfl).trans (onlyIf_t hg)) rfl) ?_
 refine Zhy 21 rfl (d.busy && (decide (0 < d.waits))) (.pointer (some ⟨be, 0, none⟩)) hS9 (fun _ fr hg _ ⟨hW, _⟩ => x_load1 pl144 rfl ((fr.ev rfl).trans (onlyIf_t hg)) (hW.cell 1 rfl)) ?_
 refine Zhy 22 rfl (d.busy && (decide (0 < d.waits))) (.pointer (some ⟨be, 0, none⟩)) hS9 (fun _ fr hg _ _ => x_nilCheck rfl ((fr.ev rfl).trans (onlyIf_t hg))) ?_
 refine Zhy 23 rfl (d.busy && (decide (0 < d.waits))) (.pointer (some ⟨be, 0, none⟩)) hS9 (fun _ fr hg _ _ => x_fieldAddr fo147_0 rfl ((fr.ev rfl).trans (onlyIf_t hg)) rfl) ?_
 refine Zhy 24 rfl (d.busy && (decide (0 < d.waits))) (.int .i64 d.o) hS9 (fun _ fr hg _ ⟨_, hE, _⟩ => x_load1 pl3 rfl ((fr.ev rfl).trans (onlyIf_t hg)) (hE.cell 0 rfl)) ?_
 refine Zhy 25 rfl (d.busy && (decide (0 < d.waits))) (.pointer (some ⟨b1, 1, none⟩)) hS9 (fun _ fr _ _ _ => x_fieldAddr fo35_1 rfl (fr.ev rfl) rfl) ?_
 refine Zhy 26 rfl (d.busy && (decide (0 < d.waits))) (.int .i64 m.src) hS9 (fun _ fr hg _ ⟨_, _, B4, _⟩ => x_load1 pl3 rfl ((fr.ev rfl).trans (onlyIf_t hg)) (B4.cell 1 rfl)) ?_
 refine Zhy 27 rfl (d.busy && (decide (0 < d.waits))) (.bool (decide (d.o = m.src))) hS9 (fun _ fr hg _ _ => x_eql rfl ((fr.ev rfl).trans (onlyIf_t hg)) ((fr.ev rfl).trans (onlyIf_t hg)) rfl) ?_
 refine Zht 28 rfl (.bool ((d.busy && (decide (0 < d.waits))) && (decide (d.o = m.src)))) hS9 (fun _ fr _ _ => x_pick_and rfl (fr.ev rfl) (fun hb => ((fr.ev rfl)).trans (onlyIf_t (by simp_all))) (fun _ => rfl) rfl) ?_
 refine Zh1 29 ?_
 intro a fr
 refine fx_callp rfl (x_call (vs := [.bool ((d.busy && (decide (0 < d.waits))) && (decide (d.o = m.src))), .int .i64 220]) rfl rfl ⟨(fr.ev rfl), rfl, trivial⟩ Try.func100 nm100 rfl) (must_nob (back_nob hk hs) 220 _) ?_
 rintro _ _ ⟨rfl, rfl⟩
 refine Zhp ?_
 refine fx_pt ?_
 refine fx_pend fr ?_
 replace hF := (hF.trNew hN3).trNew hN7
 exact ⟨_, rfl, rfl, hF⟩
theorem ack_no {w : World} {bw be bh bi ig cap r : Nat} {d : Ent} {Q : Option Addr} {qc : Nat} {A : Option Addr} {ac : Nat} {out : List Msg} {bs : List UInt8} (m : Msg) (R : WorkR w bw be bh bi ig cap r m.line d Q qc A ac out bs) (hlen : out.length + 8 ≤ 1000000) (hsrc : 0 ≤ m.src ∧ m.src < 4) (hk : m.kind = 12) (hs : strayF d m = true) : Calls Try.prog 90 #[.pointer (some ⟨bw, 0, none⟩), .agg (msgE.arr m)] w (Pan fun c w' => c = hstopE 220 ∧ New w w') := by
 obtain ⟨hW, hE, hH, hI, hQ, hO, hS⟩ := R
 have hmn := m.hn
 have hF := Only.refl (fun _ => False) w
 refine Zen 85 Try.func90 ?_
 refine Zsr ?_
 refine Znb (cs := msgE.arr m) fun b1 w2 hN3 B4 hb5 => ?_
 refine Znq ?_
 refine Zhd (n := 52) (fun w => Blk w bw 176 #[.slice A out.length ac, .pointer (some ⟨be, 0, none⟩), .pointer (some ⟨bh, 0, none⟩), .int .u32 m.line] ∧ Blk w be 147 (entA d (.slice Q d.q.length qc)) ∧ Blk w b1 35 (msgE.arr m) ∧ True) ?_
 intro w6 hN7
 replace hW := (hW.new hN3).new hN7
 replace hE := (hE.new hN3).new hN7
 replace B4 := B4.new hN7
 have hS9 := And.intro hW (And.intro hE (And.intro B4 trivial))
 refine Zhm 0 hS9 ?_
 refine Zhc 1 hS9 ?_
 refine Zhf 2 fo176_1 hS9 ?_
 refine Zhl 3 pl144 hS9 (fun _ ⟨hW, _⟩ => (hW.cell 1 rfl)) ?_
 refine Zhc 4 hS9 ?_
 refine Zhf 5 fo147_2 hS9 ?_
 refine Zhl (v := .bool d.busy) 6 pl4 hS9 (fun _ ⟨_, hE, _⟩ => (hE.cell 5 rfl)) ?_
 refine Zhm 7 hS9 ?_
 refine Zhy 8 rfl d.busy (.pointer (some ⟨bw, 0, none⟩)) hS9 (fun _ fr _ _ _ => x_move rfl (fr.ev rfl)) ?_
 refine Zhy 9 rfl d.busy (.pointer (some ⟨bw, 0, none⟩)) hS9 (fun _ fr hg _ _ => x_nilCheck rfl ((fr.ev rfl).trans (onlyIf_t hg))) ?_
 refine Zhy 10 rfl d.busy (.pointer (some ⟨bw, 1, none⟩)) hS9 (fun _ fr hg _ _ => x_fieldAddr fo176_1 rfl ((fr.ev rfl).trans (onlyIf_t hg)) rfl) ?_
 refine Zhy 11 rfl d.busy (.pointer (some ⟨be, 0, none⟩)) hS9 (fun _ fr hg _ ⟨hW, _⟩ => x_load1 pl144 rfl ((fr.ev rfl).trans (onlyIf_t hg)) (hW.cell 1 rfl)) ?_
 refine Zhy 12 rfl d.busy (.pointer (some ⟨be, 0, none⟩)) hS9 (fun _ fr hg _ _ => x_nilCheck rfl ((fr.ev rfl).trans (onlyIf_t hg))) ?_
 refine Zhy 13 rfl d.busy (.pointer (some ⟨be, 8, none⟩)) hS9 (fun _ fr hg _ _ => x_fieldAddr fo147_5 rfl ((fr.ev rfl).trans (onlyIf_t hg)) rfl) ?_
 refine Zhy 14 rfl d.busy (.int .i64 d.waits) hS9 (fun _ fr hg _ ⟨_, hE, _⟩ => x_load1 pl3 rfl ((fr.ev rfl).trans (onlyIf_t hg)) (hE.cell 8 rfl)) ?_
 refine Zhy 15 rfl d.busy (.bool (decide (0 < d.waits))) hS9 (fun _ fr hg _ _ => x_gtr rfl ((fr.ev rfl).trans (onlyIf_t hg)) rfl rfl) ?_
 refine Zht 16 rfl (.bool (d.busy && (decide (0 < d.waits)))) hS9 (fun _ fr _ _ => x_pick_and rfl (fr.ev rfl) (fun hb => ((fr.ev rfl)).trans (onlyIf_t (by simp_all))) (fun _ => rfl) rfl) ?_
 refine Zhm 17 hS9 ?_
 refine Zhy 18 rfl (d.busy && (decide (0 < d.waits))) (.pointer (some ⟨bw, 0, none⟩)) hS9 (fun _ fr _ _ _ => x_move rfl (fr.ev rfl)) ?_
 refine Zhy 19 rfl (d.busy && (decide (0 < d.waits))) (.pointer (some ⟨bw, 0, none⟩)) hS9 (fun _ fr hg _ _ => x_nilCheck rfl ((fr.ev rfl).trans (onlyIf_t hg))) ?_
 refine Zhy 20 rfl (d.busy && (decide (0 < d.waits))) (.pointer (some ⟨bw, 1, none⟩)) hS9 (fun _ fr hg _ _ => x_fieldAddr fo176_1 rfl ((fr.ev rfl).trans (onlyIf_t hg)) rfl) ?_
 refine Zhy 21 rfl (d.busy && (decide (0 < d.waits))) (.pointer (some ⟨be, 0, none⟩)) hS9 (fun _ fr hg _ ⟨hW, _⟩ => x_load1 pl144 rfl ((fr.ev rfl).trans (onlyIf_t hg)) (hW.cell 1 rfl)) ?_
 refine Zhy 22 rfl (d.busy && (decide (0 < d.waits))) (.pointer (some ⟨be, 0, none⟩)) hS9 (fun _ fr hg _ _ => x_nilCheck rfl ((fr.ev rfl).trans (onlyIf_t hg))) ?_
 refine Zhy 23 rfl (d.busy && (decide (0 < d.waits))) (.pointer (some ⟨be, 0, none⟩)) hS9 (fun _ fr hg _ _ => x_fieldAddr fo147_0 rfl ((fr.ev rfl).trans (onlyIf_t hg)) rfl) ?_
 refine Zhy 24 rfl (d.busy && (decide (0 < d.waits))) (.int .i64 d.o) hS9 (fun _ fr hg _ ⟨_, hE, _⟩ => x_load1 pl3 rfl ((fr.ev rfl).trans (onlyIf_t hg)) (hE.cell 0 rfl)) ?_
 refine Zhy 25 rfl (d.busy && (decide (0 < d.waits))) (.bool (decide (d.o < 0))) hS9 (fun _ fr hg _ _ => x_lss rfl ((fr.ev rfl).trans (onlyIf_t hg)) rfl rfl) ?_
 refine Zht 26 rfl (.bool ((d.busy && (decide (0 < d.waits))) && (decide (d.o < 0)))) hS9 (fun _ fr _ _ => x_pick_and rfl (fr.ev rfl) (fun hb => ((fr.ev rfl)).trans (onlyIf_t (by simp_all))) (fun _ => rfl) rfl) ?_
 refine Zhm 27 hS9 ?_
 refine Zhy 28 rfl ((d.busy && (decide (0 < d.waits))) && (decide (d.o < 0))) (.pointer (some ⟨bw, 0, none⟩)) hS9 (fun _ fr _ _ _ => x_move rfl (fr.ev rfl)) ?_
 refine Zhy 29 rfl ((d.busy && (decide (0 < d.waits))) && (decide (d.o < 0))) (.pointer (some ⟨bw, 0, none⟩)) hS9 (fun _ fr hg _ _ => x_nilCheck rfl ((fr.ev rfl).trans (onlyIf_t hg))) ?_
 refine Zhy 30 rfl ((d.busy && (decide (0 < d.waits))) && (decide (d.o < 0))) (.pointer (some ⟨bw, 1, none⟩)) hS9 (fun _ fr hg _ _ => x_fieldAddr fo176_1 rfl ((fr.ev rfl).trans (onlyIf_t hg)) rfl) ?_
 refine Zhy 31 rfl ((d.busy && (decide (0 < d.waits))) && (decide (d.o < 0))) (.pointer (some ⟨be, 0, none⟩)) hS9 (fun _ fr hg _ ⟨hW, _⟩ => x_load1 pl144 rfl ((fr.ev rfl).trans (onlyIf_t hg)) (hW.cell 1 rfl)) ?_
 refine Zhy 32 rfl ((d.busy && (decide (0 < d.waits))) && (decide (d.o < 0))) (.pointer (some ⟨b1, 1, none⟩)) hS9 (fun _ fr _ _ _ => x_fieldAddr fo35_1 rfl (fr.ev rfl) rfl) ?_
 refine Zhy 33 rfl ((d.busy && (decide (0 < d.waits))) && (decide (d.o < 0))) (.int .i64 m.src) hS9 (fun _ fr hg _ ⟨_, _, B4, _⟩ => x_load1 pl3 rfl ((fr.ev rfl).trans (onlyIf_t hg)) (B4.cell 1 rfl)) ?_
 refine Zhy 34 rfl ((d.busy && (decide (0 < d.waits))) && (decide (d.o < 0))) (.pointer (some ⟨be, 0, none⟩)) hS9 (fun _ fr hg _ _ => x_nilCheck rfl ((fr.ev rfl).trans (onlyIf_t hg))) ?_
 refine Zhy 35 rfl ((d.busy && (decide (0 < d.waits))) && (decide (d.o < 0))) (.pointer (some ⟨be, 1, none⟩)) hS9 (fun _ fr hg _ _ => x_fieldAddr fo147_1 rfl ((fr.ev rfl).trans (onlyIf_t hg)) rfl) ?_
 refine Zhy 36 rfl ((d.busy && (decide (0 < d.waits))) && (decide (d.o < 0))) (.pointer (some ⟨be, 1 + m.src.toNat, none⟩)) hS9 (fun _ fr hg _ _ => x_indexArr Try.underlying145 sz4 rfl ((fr.ev rfl).trans (onlyIf_t hg)) (((fr.ev rfl).trans (onlyIf_t hg)).trans (int_nat _ m.src (by omega))) (by omega) (by omega)) ?_
 refine Zhy 37 rfl ((d.busy && (decide (0 < d.waits))) && (decide (d.o < 0))) (.bool (d.sh.get m.src)) hS9 (fun _ fr hg _ ⟨_, hE, _⟩ => x_load1 pl4 rfl ((fr.ev rfl).trans (onlyIf_t hg)) (hE.cell _ (ent_sh _ _ m.src (by omega) (by omega)))) ?_
 refine Zht 38 rfl (.bool (((d.busy && (decide (0 < d.waits))) && (decide (d.o < 0))) && (d.sh.get m.src))) hS9 (fun _ fr _ _ => x_pick_and rfl (fr.ev rfl) (fun hb => ((fr.ev rfl)).trans (onlyIf_t (by simp_all))) (fun _ => rfl) rfl) ?_
 refine Zhm 39 hS9 ?_
 refine Zhy 40 rfl (((d.busy && (decide (0 < d.waits))) && (decide (d.o < 0))) && (d.sh.get m.src)) (.pointer (some ⟨b1, 1, none⟩)) hS9 (fun _ fr _ _ _ => x_fieldAddr fo35_1 rfl (fr.ev rfl) rfl) ?_
 refine Zhy 41 rfl (((d.busy && (decide (0 < d.waits))) && (decide (d.o < 0))) && (d.sh.get m.src)) (.int .i64 m.src) hS9 (fun _ fr hg _ ⟨_, _, B4, _⟩ => x_load1 pl3 rfl ((fr.ev rfl).trans (onlyIf_t hg)) (B4.cell 1 rfl)) ?_
 refine Zhy 42 rfl (((d.busy && (decide (0 < d.waits))) && (decide (d.o < 0))) && (d.sh.get m.src)) (.pointer (some ⟨bw, 0, none⟩)) hS9 (fun _ fr _ _ _ => x_move rfl (fr.ev rfl)) ?_
 refine Zhy 43 rfl (((d.busy && (decide (0 < d.waits))) && (decide (d.o < 0))) && (d.sh.get m.src)) (.pointer (some ⟨bw, 0, none⟩)) hS9 (fun _ fr hg _ _ => x_nilCheck rfl ((fr.ev rfl).trans (onlyIf_t hg))) ?_
 refine Zhy 44 rfl (((d.busy && (decide (0 < d.waits))) && (decide (d.o < 0))) && (d.sh.get m.src)) (.pointer (some ⟨bw, 1, none⟩)) hS9 (fun _ fr hg _ _ => x_fieldAddr fo176_1 rfl ((fr.ev rfl).trans (onlyIf_t hg)) rfl) ?_
 refine Zhy 45 rfl (((d.busy && (decide (0 < d.waits))) && (decide (d.o < 0))) && (d.sh.get m.src)) (.pointer (some ⟨be, 0, none⟩)) hS9 (fun _ fr hg _ ⟨hW, _⟩ => x_load1 pl144 rfl ((fr.ev rfl).trans (onlyIf_t hg)) (hW.cell 1 rfl)) ?_
 refine Zhy 46 rfl (((d.busy && (decide (0 < d.waits))) && (decide (d.o < 0))) && (d.sh.get m.src)) (.pointer (some ⟨be, 0, none⟩)) hS9 (fun _ fr hg _ _ => x_nilCheck rfl ((fr.ev rfl).trans (onlyIf_t hg))) ?_
 refine Zhy 47 rfl (((d.busy && (decide (0 < d.waits))) && (decide (d.o < 0))) && (d.sh.get m.src)) (.pointer (some ⟨be, 6, none⟩)) hS9 (fun _ fr hg _ _ => x_fieldAddr fo147_3 rfl ((fr.ev rfl).trans (onlyIf_t hg)) rfl) ?_
 refine Zhy 48 rfl (((d.busy && (decide (0 < d.waits))) && (decide (d.o < 0))) && (d.sh.get m.src)) (.int .i64 d.asks) hS9 (fun _ fr hg _ ⟨_, hE, _⟩ => x_load1 pl3 rfl ((fr.ev rfl).trans (onlyIf_t hg)) (hE.cell 6 rfl)) ?_
 refine Zhy 49 rfl (((d.busy && (decide (0 < d.waits))) && (decide (d.o < 0))) && (d.sh.get m.src)) (.bool (decide (m.src ≠ d.asks))) hS9 (fun _ fr hg _ _ => x_neq rfl ((fr.ev rfl).trans (onlyIf_t hg)) ((fr.ev rfl).trans (onlyIf_t hg)) rfl) ?_
 refine Zht 50 rfl (.bool ((((d.busy && (decide (0 < d.waits))) && (decide (d.o < 0))) && (d.sh.get m.src)) && (decide (m.src ≠ d.asks)))) hS9 (fun _ fr _ _ => x_pick_and rfl (fr.ev rfl) (fun hb => ((fr.ev rfl)).trans (onlyIf_t (by simp_all))) (fun _ => rfl) rfl) ?_
 refine Zh1 51 ?_
 intro a fr
 refine fx_callp rfl (x_call (vs := [.bool ((((d.busy && (decide (0 < d.waits))) && (decide (d.o < 0))) && (d.sh.get m.src)) && (decide (m.src ≠ d.asks))), .int .i64 220]) rfl rfl ⟨(fr.ev rfl), rfl, trivial⟩ Try.func100 nm100 rfl) (must_nob (ack_nob hk hs) 220 _) ?_
 rintro _ _ ⟨rfl, rfl⟩
 refine Zhp ?_
 refine fx_pt ?_
 refine fx_pend fr ?_
 replace hF := (hF.trNew hN3).trNew hN7
 exact ⟨_, rfl, rfl, hF⟩
theorem done_no {w : World} {bw be bh bi ig cap r : Nat} {d : Ent} {Q : Option Addr} {qc : Nat} {A : Option Addr} {ac : Nat} {out : List Msg} {bs : List UInt8} (m : Msg) (R : WorkR w bw be bh bi ig cap r m.line d Q qc A ac out bs) (hlen : out.length + 8 ≤ 1000000) (hsrc : 0 ≤ m.src ∧ m.src < 4) (hk : m.kind = 13) (hs : strayF d m = true) : Calls Try.prog 91 #[.pointer (some ⟨bw, 0, none⟩), .agg (msgE.arr m)] w (Pan fun c w' => c = hstopE 220 ∧ New w w') := by
 obtain ⟨hW, hE, hH, hI, hQ, hO, hS⟩ := R
 have hmn := m.hn
 have hF := Only.refl (fun _ => False) w
 refine Zen 103 Try.func91 ?_
 refine Zsr ?_
 refine Znb (cs := msgE.arr m) fun b1 w2 hN3 B4 hb5 => ?_
 refine Znq ?_
 refine Zhd (n := 29) (fun w => Blk w bw 176 #[.slice A out.length ac, .pointer (some ⟨be, 0, none⟩), .pointer (some ⟨bh, 0, none⟩), .int .u32 m.line] ∧ Blk w be 147 (entA d (.slice Q d.q.length qc)) ∧ Blk w b1 35 (msgE.arr m) ∧ True) ?_
 intro w6 hN7
 replace hW := (hW.new hN3).new hN7
 replace hE := (hE.new hN3).new hN7
 replace B4 := B4.new hN7
 have hS9 := And.intro hW (And.intro hE (And.intro B4 trivial))
 refine Zhm 0 hS9 ?_
 refine Zhc 1 hS9 ?_
 refine Zhf 2 fo176_1 hS9 ?_
 refine Zhl 3 pl144 hS9 (fun _ ⟨hW, _⟩ => (hW.cell 1 rfl)) ?_
 refine Zhc 4 hS9 ?_
 refine Zhf 5 fo147_2 hS9 ?_
 refine Zhl (v := .bool d.busy) 6 pl4 hS9 (fun _ ⟨_, hE, _⟩ => (hE.cell 5 rfl)) ?_
 refine Zhm 7 hS9 ?_
 refine Zhy 8 rfl d.busy (.pointer (some ⟨bw, 0, none⟩)) hS9 (fun _ fr _ _ _ => x_move rfl (fr.ev rfl)) ?_
 refine Zhy 9 rfl d.busy (.pointer (some ⟨bw, 0, none⟩)) hS9 (fun _ fr hg _ _ => x_nilCheck rfl ((fr.ev rfl).trans (onlyIf_t hg))) ?_
 refine Zhy 10 rfl d.busy (.pointer (some ⟨bw, 1, none⟩)) hS9 (fun _ fr hg _ _ => x_fieldAddr fo176_1 rfl ((fr.ev rfl).trans (onlyIf_t hg)) rfl) ?_
 refine Zhy 11 rfl d.busy (.pointer (some ⟨be, 0, none⟩)) hS9 (fun _ fr hg _ ⟨hW, _⟩ => x_load1 pl144 rfl ((fr.ev rfl).trans (onlyIf_t hg)) (hW.cell 1 rfl)) ?_
 refine Zhy 12 rfl d.busy (.pointer (some ⟨be, 0, none⟩)) hS9 (fun _ fr hg _ _ => x_nilCheck rfl ((fr.ev rfl).trans (onlyIf_t hg))) ?_
 refine Zhy 13 rfl d.busy (.pointer (some ⟨be, 9, none⟩)) hS9 (fun _ fr hg _ _ => x_fieldAddr fo147_6 rfl ((fr.ev rfl).trans (onlyIf_t hg)) rfl) ?_
 refine Zhy 14 rfl d.busy (.bool d.told) hS9 (fun _ fr hg _ ⟨_, hE, _⟩ => x_load1 pl4 rfl ((fr.ev rfl).trans (onlyIf_t hg)) (hE.cell 9 rfl)) ?_
 refine Zht 15 rfl (.bool (d.busy && d.told)) hS9 (fun _ fr _ _ => x_pick_and rfl (fr.ev rfl) (fun hb => ((fr.ev rfl)).trans (onlyIf_t (by simp_all))) (fun _ => rfl) rfl) ?_
 refine Zhm 16 hS9 ?_
 refine Zhy 17 rfl (d.busy && d.told) (.pointer (some ⟨bw, 0, none⟩)) hS9 (fun _ fr _ _ _ => x_move rfl (fr.ev rfl)) ?_
 refine Zhy 18 rfl (d.busy && d.told) (.pointer (some ⟨bw, 0, none⟩)) hS9 (fun _ fr hg _ _ => x_nilCheck rfl ((fr.ev rfl).trans (onlyIf_t hg))) ?_
 refine Zhy 19 rfl (d.busy && d.told) (.pointer (some ⟨bw, 1, none⟩)) hS9 (fun _ fr hg _ _ => x_fieldAddr fo176_1 rfl ((fr.ev rfl).trans (onlyIf_t hg)) rfl) ?_
 refine Zhy 20 rfl (d.busy && d.told) (.pointer (some ⟨be, 0, none⟩)) hS9 (fun _ fr hg _ ⟨hW, _⟩ => x_load1 pl144 rfl ((fr.ev rfl).trans (onlyIf_t hg)) (hW.cell 1 rfl)) ?_
 refine Zhy 21 rfl (d.busy && d.told) (.pointer (some ⟨be, 0, none⟩)) hS9 (fun _ fr hg _ _ => x_nilCheck rfl ((fr.ev rfl).trans (onlyIf_t hg))) ?_
 refine Zhy 22 rfl (d.busy && d.told) (.pointer (some ⟨be, 6, none⟩)) hS9 (fun _ fr hg _ _ => x_fieldAddr fo147_3 rfl ((fr.ev rfl).trans (onlyIf_t hg)) rfl) ?_
 refine Zhy 23 rfl (d.busy && d.told) (.int .i64 d.asks) hS9 (fun _ fr hg _ ⟨_, hE, _⟩ => x_load1 pl3 rfl ((fr.ev rfl).trans (onlyIf_t hg)) (hE.cell 6 rfl)) ?_
 refine Zhy 24 rfl (d.busy && d.told) (.pointer (some ⟨b1, 1, none⟩)) hS9 (fun _ fr _ _ _ => x_fieldAddr fo35_1 rfl (fr.ev rfl) rfl) ?_
 refine Zhy 25 rfl (d.busy && d.told) (.int .i64 m.src) hS9 (fun _ fr hg _ ⟨_, _, B4, _⟩ => x_load1 pl3 rfl ((fr.ev rfl).trans (onlyIf_t hg)) (B4.cell 1 rfl)) ?_
 refine Zhy 26 rfl (d.busy && d.told) (.bool (decide (d.asks = m.src))) hS9 (fun _ fr hg _ _ => x_eql rfl ((fr.ev rfl).trans (onlyIf_t hg)) ((fr.ev rfl).trans (onlyIf_t hg)) rfl) ?_
 refine Zht 27 rfl (.bool ((d.busy && d.told) && (decide (d.asks = m.src)))) hS9 (fun _ fr _ _ => x_pick_and rfl (fr.ev rfl) (fun hb => ((fr.ev rfl)).trans (onlyIf_t (by simp_all))) (fun _ => rfl) rfl) ?_
 refine Zh1 28 ?_
 intro a fr
 refine fx_callp rfl (x_call (vs := [.bool ((d.busy && d.told) && (decide (d.asks = m.src))), .int .i64 220]) rfl rfl ⟨(fr.ev rfl), rfl, trivial⟩ Try.func100 nm100 rfl) (must_nob (done_nob hk hs) 220 _) ?_
 rintro _ _ ⟨rfl, rfl⟩
 refine Zhp ?_
 refine fx_pt ?_
 refine fx_pend fr ?_
 replace hF := (hF.trNew hN3).trNew hN7
 exact ⟨_, rfl, rfl, hF⟩
end Go.Proofs.Ytflnlmibkbojcaa
namespace Go.Proofs.Ytflnlmibkbojcaa
open Go.RowKit
def QOk (n : Int) (x : Msg) : Prop := 1 ≤ x.kind ∧ x.kind ≤ 3 ∧ (0 ≤ x.src ∧ x.src < 4) ∧ x.line = n
theorem drain_stop {b : Bool} {l : List Msg} (h : (!b && decide (0 < ((l.length : Nat) : Int))) = false) : b = true ∨ l = [] := by
  cases b
  · right
    cases l with
    | nil => rfl
    | cons x r => simp at h
  · exact .inl rfl
theorem drain_go {b : Bool} {l : List Msg} (h : (!b && decide (0 < ((l.length : Nat) : Int))) = true) : b = false ∧ 0 < l.length := by
  cases b
  · simp at h
    exact ⟨rfl, by omega⟩
  · simp at h
theorem getD_in {l : List Msg} {i : Nat} (h : i < l.length) : l.getD i msg0 ∈ l := by
  simp [List.getD, h]
theorem begin_ql {bs : List UInt8} {d : Ent} {m x : Msg} (h : x ∈ (beginF bs { d with q := d.q.drop 1 } m).1.q) : x ∈ d.q := by
  rw [begin_q] at h
  exact List.mem_of_mem_drop h
theorem begin_qn {bs : List UInt8} {d : Ent} {m : Msg} : (beginF bs { d with q := d.q.drop 1 } m).1.q.length = d.q.length - 1 := by
  rw [begin_q]
  simp
theorem done_ok {w : World} {bw be bh bi ig cap r : Nat} {o : Int} {sh : Sh} {asks : Int} {kind : Int} {q : List Msg} {Q : Option Addr} {qc : Nat} {A : Option Addr} {ac : Nat} {out : List Msg} {bs : List UInt8} (m : Msg) (R : WorkR w bw be bh bi ig cap r m.line (Ent.mk o sh true asks kind 0 true q) Q qc A ac out bs) (hlen : out.length + 8 ≤ 1000000) (hsrc : 0 ≤ m.src ∧ m.src < 4) (hk : m.kind = 13) (ha : asks = m.src) (hq : ∀ x ∈ q, QOk m.line x) (hlen5 : out.length + 8 + 5 * q.length ≤ 1000000) : Calls Try.prog 91 #[.pointer (some ⟨bw, 0, none⟩), .agg (msgE.arr m)] w (Ret fun v w' => v = .tuple #[] ∧ HRet w w' bw be bh bi ig cap r m.line Q A out (otherF bs (Ent.mk o sh true asks kind 0 true q) m)) := by
 obtain ⟨hW, hE, hH, hI, hQ, hO, hS⟩ := R
 have ne_bw_be := hS.ne_bw_be
 have ne_bw_bh := hS.ne_bw_bh
 have ne_bw_bi := hS.ne_bw_bi
 have ne_bw_ig := hS.ne_bw_ig
 have ne_be_bh := hS.ne_be_bh
 have ne_be_bi := hS.ne_be_bi
 have ne_be_ig := hS.ne_be_ig
 have ne_bh_bi := hS.ne_bh_bi
 have ne_bh_ig := hS.ne_bh_ig
 have ne_bi_ig := hS.ne_bi_ig
 have ap_Q_bw := hS.ap_Q_bw
 have ap_Q_be := hS.ap_Q_be
 have ap_Q_bh := hS.ap_Q_bh
 have ap_Q_bi := hS.ap_Q_bi
 have ap_Q_ig := hS.ap_Q_ig
 have ap_A_bw := hS.ap_A_bw
 have ap_A_be := hS.ap_A_be
 have ap_A_bh := hS.ap_A_bh
 have ap_A_bi := hS.ap_A_bi
 have ap_A_ig := hS.ap_A_ig
 have ap2_Q_A := hS.ap2_Q_A
 have gA_A : ∀ g, inA A g → (g = bw ∨ g = be ∨ g = ig ∨ inA A g ∨ inA Q g) ∨ w.heap.size ≤ g := fun g hg => .inl (.inr (.inr (.inr (.inl hg))))
 have hmn := m.hn
 have gA_Q : ∀ g, inA Q g → (g = bw ∨ g = be ∨ g = ig ∨ inA A g ∨ inA Q g) ∨ w.heap.size ≤ g := fun g hg => .inl (.inr (.inr (.inr (.inr hg))))
 have hF := Only.refl (fun k => k = bw ∨ k = be ∨ k = ig ∨ inA A k ∨ inA Q k) w
 refine Zen 103 Try.func91 ?_
 refine Zsr ?_
 refine Znb (cs := msgE.arr m) fun b1 w2 hN3 B4 hb5 => ?_
 refine Znq ?_
 refine Zhd (n := 29) (fun w => Blk w bw 176 #[.slice A out.length ac, .pointer (some ⟨be, 0, none⟩), .pointer (some ⟨bh, 0, none⟩), .int .u32 m.line] ∧ Blk w be 147 (entA (Ent.mk o sh true asks kind 0 true q) (.slice Q q.length qc)) ∧ Blk w b1 35 (msgE.arr m) ∧ True) ?_
 intro w6 hN7
 replace hW := (hW.new hN3).new hN7
 replace hE := (hE.new hN3).new hN7
 replace B4 := B4.new hN7
 have hS9 := And.intro hW (And.intro hE (And.intro B4 trivial))
 refine Zhm 0 hS9 ?_
 refine Zhc 1 hS9 ?_
 refine Zhf 2 fo176_1 hS9 ?_
 refine Zhl 3 pl144 hS9 (fun _ ⟨hW, _⟩ => (hW.cell 1 rfl)) ?_
 refine Zhc 4 hS9 ?_
 refine Zhf 5 fo147_2 hS9 ?_
 refine Zhl (v := .bool true) 6 pl4 hS9 (fun _ ⟨_, hE, _⟩ => (hE.cell 5 rfl)) ?_
 refine Zhm 7 hS9 ?_
 refine Zhm 8 hS9 ?_
 refine Zhc 9 hS9 ?_
 refine Zhf 10 fo176_1 hS9 ?_
 refine Zhl 11 pl144 hS9 (fun _ ⟨hW, _⟩ => (hW.cell 1 rfl)) ?_
 refine Zhc 12 hS9 ?_
 refine Zhf 13 fo147_6 hS9 ?_
 refine Zhl (v := .bool true) 14 pl4 hS9 (fun _ ⟨_, hE, _⟩ => (hE.cell 9 rfl)) ?_
 refine Zht 15 rfl (.bool true) hS9 (fun _ fr _ _ => x_pick_t rfl (fr.ev rfl) (fr.ev rfl)) ?_
 refine Zhm 16 hS9 ?_
 refine Zhm 17 hS9 ?_
 refine Zhc 18 hS9 ?_
 refine Zhf 19 fo176_1 hS9 ?_
 refine Zhl 20 pl144 hS9 (fun _ ⟨hW, _⟩ => (hW.cell 1 rfl)) ?_
 refine Zhc 21 hS9 ?_
 refine Zhf 22 fo147_3 hS9 ?_
 refine Zhl (v := .int .i64 asks) 23 pl3 hS9 (fun _ ⟨_, hE, _⟩ => (hE.cell 6 rfl)) ?_
 refine Zhf 24 fo35_1 hS9 ?_
 refine Zhl (v := .int .i64 m.src) 25 pl3 hS9 (fun _ ⟨_, _, B4, _⟩ => (B4.cell 1 rfl)) ?_
 refine Zht 26 rfl (.bool true) hS9 (fun _ fr _ _ => x_eql rfl (fr.ev rfl) (fr.ev rfl) (decide_eq_true ha)) ?_
 refine Zht 27 rfl (.bool true) hS9 (fun _ fr _ _ => x_pick_t rfl (fr.ev rfl) (fr.ev rfl)) ?_
 refine Zh1 28 ?_
 refine Zk cf100 (hmust_ok 220 _) ?_
 rintro v w9 ⟨rfl, hw9⟩
 obtain rfl := hw9.symm
 refine Zhb ⟨hW, hE, B4, trivial⟩ ?_
 refine Zhn ?_
 refine Znx ?_
 refine Zsq ?_
 refine ZhT (n := 25) 25 (fun w => Blk w bw 176 #[.slice A out.length ac, .pointer (some ⟨be, 0, none⟩), .pointer (some ⟨bh, 0, none⟩), .int .u32 m.line] ∧ True) ?_
 intro w10 hN11
 replace hW := hW.new hN11
 have hS9 := And.intro hW trivial
 refine Zhm 0 hS9 ?_
 refine Zhc 1 hS9 ?_
 refine Zhf 2 fo176_1 hS9 ?_
 refine Zhl 3 pl144 hS9 (fun _ ⟨hW, _⟩ => (hW.cell 1 rfl)) ?_
 refine Zhm 4 hS9 ?_
 refine Zhc 5 hS9 ?_
 refine Zhf 6 fo176_1 hS9 ?_
 refine Zhl 7 pl144 hS9 (fun _ ⟨hW, _⟩ => (hW.cell 1 rfl)) ?_
 refine Zhm 8 hS9 ?_
 refine Zhc 9 hS9 ?_
 refine Zhf 10 fo176_1 hS9 ?_
 refine Zhl 11 pl144 hS9 (fun _ ⟨hW, _⟩ => (hW.cell 1 rfl)) ?_
 refine Zhm 12 hS9 ?_
 refine Zhc 13 hS9 ?_
 refine Zhf 14 fo176_1 hS9 ?_
 refine Zhl 15 pl144 hS9 (fun _ ⟨hW, _⟩ => (hW.cell 1 rfl)) ?_
 refine Zhc 16 hS9 ?_
 refine Zhf 17 fo147_2 hS9 ?_
 refine Zh1 18 ?_
 replace hE := hE.new hN11
 refine Zs1 (cs' := entA ({ (Ent.mk o sh true asks kind 0 true q) with busy := false }) (.slice Q q.length qc)) sz4 hE (show 5 < 11 by decide) rfl fun w12 hO13 hE => ?_
 replace hW := hW.only hO13 ne_bw_be
 refine Zhb ⟨hW, trivial⟩ ?_
 have hS9 := And.intro hW trivial
 refine Zhc 19 hS9 ?_
 refine Zhf 20 fo147_3 hS9 ?_
 refine Zh1 21 ?_
 refine Zs1 (cs' := entA ({ { (Ent.mk o sh true asks kind 0 true q) with busy := false } with asks := 0 }) (.slice Q q.length qc)) sz3 hE (show 6 < 11 by decide) rfl fun w14 hO15 hE => ?_
 replace hW := hW.only hO15 ne_bw_be
 refine Zhb ⟨hW, trivial⟩ ?_
 have hS9 := And.intro hW trivial
 refine Zhc 22 hS9 ?_
 refine Zhf 23 fo147_4 hS9 ?_
 refine Zh1 24 ?_
 refine Zs1 (cs' := entA ({ { { (Ent.mk o sh true asks kind 0 true q) with busy := false } with asks := 0 } with kind := 0 }) (.slice Q q.length qc)) sz33 hE (show 7 < 11 by decide) rfl fun w16 hO17 hE => ?_
 replace hW := hW.only hO17 ne_bw_be
 refine Zhb ⟨hW, trivial⟩ ?_
 refine Zhn ?_
 refine Ztl ?_
 refine Zn ?_
 refine Zf fo147_6 ?_
 refine Zs1 (cs' := entA ({ { { { (Ent.mk o sh true asks kind 0 true q) with busy := false } with asks := 0 } with kind := 0 } with told := false }) (.slice Q q.length qc)) sz4 hE (show 9 < 11 by decide) rfl fun w18 hO19 hE => ?_
 refine Znn ?_
 refine Zbl ?_
 intro a fr
 replace hH := ((((((hH.new hN3).new hN7).new hN11).only hO13 ne_be_bh.symm).only hO15 ne_be_bh.symm).only hO17 ne_be_bh.symm).only hO19 ne_be_bh.symm
 replace hI := ((((((hI.new hN3).new hN7).new hN11).only hO13 ne_be_bi.symm ne_be_ig.symm).only hO15 ne_be_bi.symm ne_be_ig.symm).only hO17 ne_be_bi.symm ne_be_ig.symm).only hO19 ne_be_bi.symm ne_be_ig.symm
 replace hQ := ((((((hQ.new hN3).new hN7).new hN11).only hO13 (Apart.ne1 ap_Q_be)).only hO15 (Apart.ne1 ap_Q_be)).only hO17 (Apart.ne1 ap_Q_be)).only hO19 (Apart.ne1 ap_Q_be)
 replace hO := ((((((hO.new hN3).new hN7).new hN11).only hO13 (Apart.ne1 ap_A_be)).only hO15 (Apart.ne1 ap_A_be)).only hO17 (Apart.ne1 ap_A_be)).only hO19 (Apart.ne1 ap_A_be)
 replace hF := ((((((hF.trNew hN3).trNew hN7).trNew hN11).loc hO13 (.inl (.inr (.inl rfl)))).loc hO15 (.inl (.inr (.inl rfl)))).loc hO17 (.inl (.inr (.inl rfl)))).loc hO19 (.inl (.inr (.inl rfl)))
 replace hW := hW.only hO19 ne_bw_be
 refine fx_loop (fun nM a wL => ∃ d1 : Ent, ∃ bs1 : List UInt8, ∃ Q1 : Option Addr, ∃ qc1 : Nat, ∃ A1 : Option Addr, ∃ c1 : Nat, ∃ out1 : List Msg, nM = d1.q.length ∧ Fr (103, []) [(0, .pointer (some ⟨bw, 0, none⟩))] a ∧ Only (fun k => k = bw ∨ k = be ∨ k = ig ∨ inA A k ∨ inA Q k) w wL ∧ Blk wL bw 176 #[.slice A1 out1.length c1, .pointer (some ⟨be, 0, none⟩), .pointer (some ⟨bh, 0, none⟩), .int .u32 m.line] ∧ Blk wL be 147 (entA d1 (.slice Q1 d1.q.length qc1)) ∧ Blk wL bh 140 #[.pointer (some ⟨bi, 0, none⟩), .map (some r)] ∧ Img 0 wL bi ig cap bs1 ∧ View msgE wL Q1 qc1 d1.q ∧ Own msgE wL A1 c1 out1 ∧ addF out1 (drainF d1.q bs1 d1) = addF out (drainF q bs { { { { (Ent.mk o sh true asks kind 0 true q) with busy := false } with asks := 0 } with kind := 0 } with told := false }) ∧ (∀ x ∈ d1.q, QOk m.line x) ∧ out1.length + 8 + 5 * d1.q.length ≤ 1000000 ∧ (Apart Q1 bw) ∧ (Apart A1 bw) ∧ (Apart Q1 be) ∧ (Apart A1 be) ∧ (Apart Q1 bh) ∧ (Apart A1 bh) ∧ (Apart Q1 bi) ∧ (Apart Q1 ig) ∧ (Apart A1 bi) ∧ (Apart A1 ig) ∧ (Apart2 Q1 A1) ∧ (∀ g, inA Q1 g → (fun k => k = bw ∨ k = be ∨ k = ig ∨ inA A k ∨ inA Q k) g ∨ w.heap.size ≤ g) ∧ (∀ g, inA A1 g → (fun k => k = bw ∨ k = be ∨ k = ig ∨ inA A k ∨ inA Q k) g ∨ w.heap.size ≤ g)) (n0 := _) ⟨{ { { { (Ent.mk o sh true asks kind 0 true q) with busy := false } with asks := 0 } with kind := 0 } with told := false }, bs, Q, qc, A, ac, out, rfl, fr.sub ⟨rfl, trivial⟩, hF, hW, hE, hH, hI, hQ, hO, rfl, hq, hlen5, ap_Q_bw, ap_A_bw, ap_Q_be, ap_A_be, ap_Q_bh, ap_A_bh, ap_Q_bi, ap_Q_ig, ap_A_bi, ap_A_ig, ap2_Q_A, gA_Q, gA_A⟩ ?_
 clear fr a
 rintro n21 a w20 ⟨d1, bs1, Q1, qc1, A1, c1, out1, rfl, fr, hF, hW, hE, hH, hI, hQ, O1, hp0, hp1, hp2, ap_Q1_bw, ap_A1_bw, ap_Q1_be, ap_A1_be, ap_Q1_bh, ap_A1_bh, ap_Q1_bi, ap_Q1_ig, ap_A1_bi, ap_A1_ig, ap2_Q1_A1, gA_Q1, gA_A1⟩
 revert a
 refine Zsq ?_
 refine Zsm ?_
 refine Zn ?_
 refine Zf fo176_1 ?_
 refine Zd pl144 (hW.cell 1 rfl) ?_
 refine Zn ?_
 refine Zf fo147_2 ?_
 refine Zd (v := .bool d1.busy) pl4 (hE.cell 5 rfl) ?_
 refine Zv _ (fun _ fr => x_not rfl (fr.ev rfl) rfl) ?_
 refine Zm ?_
 refine Zy (!d1.busy) _ (fun _ fr _ => x_move rfl (fr.ev rfl)) ?_
 refine Zy (!d1.busy) _ (fun _ fr hg => x_nilCheck rfl ((fr.ev rfl).trans (onlyIf_t hg))) ?_
 refine Zy (!d1.busy) _ (fun _ fr hg => x_fieldAddr fo176_1 rfl ((fr.ev rfl).trans (onlyIf_t hg)) rfl) ?_
 refine Zy (!d1.busy) _ (fun _ fr hg => x_load1 pl144 rfl ((fr.ev rfl).trans (onlyIf_t hg)) (hW.cell 1 rfl)) ?_
 refine Zy (!d1.busy) _ (fun _ fr hg => x_nilCheck rfl ((fr.ev rfl).trans (onlyIf_t hg))) ?_
 refine Zy (!d1.busy) _ (fun _ fr hg => x_fieldAddr fo147_7 rfl ((fr.ev rfl).trans (onlyIf_t hg)) rfl) ?_
 refine Zy (!d1.busy) _ (fun _ fr hg => x_load1 pl29 rfl ((fr.ev rfl).trans (onlyIf_t hg)) (hE.cell 10 rfl)) ?_
 refine Zy (!d1.busy) _ (fun _ fr hg => x_len Try.underlying29 rfl ((fr.ev rfl).trans (onlyIf_t hg))) ?_
 refine Zy (!d1.busy) _ (fun _ fr hg => x_gtr rfl ((fr.ev rfl).trans (onlyIf_t hg)) rfl rfl) ?_
 refine Zv (.bool ((!d1.busy) && (decide (0 < ((d1.q.length : Nat) : Int))))) (fun _ fr => x_pick_and rfl (fr.ev rfl) (fun hb => ((fr.ev rfl)).trans (onlyIf_t (by simp_all))) (fun _ => rfl) rfl) ?_
 refine Znn ?_
 refine Zcd (fun hc22 => ?_) (fun hc22 => ?_)
 ·have hc22s := hc22
  try simp at hc22s
  refine Zkn ?_
  refine Zbl ?_
  refine Zsq ?_
  have hgo := drain_go hc22
  have hgo2 := hgo.2
  have hq1 := hp1 _ (getD_in hgo2)
  refine Zgm ?_
  refine Zn ?_
  refine Zf fo176_1 ?_
  refine Zd pl144 (hW.cell 1 rfl) ?_
  refine Zn ?_
  refine Zf fo147_7 ?_
  refine Zd (v := .slice Q1 d1.q.length qc1) pl29 (hE.cell 10 rfl) ?_
  obtain ⟨g23, o24, hA25⟩ := (hQ).some_ (by first | omega | decide)
  refine Zv (.pointer (some ⟨g23, o24 + 0 * 20, none⟩)) (fun _ fr => x_indexV Try.underlying29 sz35 rfl (fr.ev rfl) hA25 rfl (by first | omega | decide) rfl) ?_
  refine ZE msgE ag35 ((hQ).elem hA25 0 msg0 (by omega)) ?_
  refine Zna (z := zv3) (cs := msgE.arr msg0) (by kernel_rfl) fun b26 w27 hN28 B29 hb30 => ?_
  have ne_bw_b26 := nelt hW.lt hb30
  have ne_be_b26 := nelt hE.lt hb30
  have ne_bh_b26 := nelt hH.lt hb30
  have ne_bi_b26 := nelt hI.lt.1 hb30
  have ne_ig_b26 := nelt hI.lt.2 hb30
  have ap_Q1_b26 := hQ.apart hb30
  have ap_A1_b26 := O1.apart hb30
  have g_b26 := hF.sz hb30
  refine ZsS sz35 (msgE.all _) B29 (msgE.size _) (msgE.size _) fun w31 hO32 B29 => ?_
  refine Znq ?_
  refine ZhT (n := 12) 12 (fun w => Blk w bw 176 #[.slice A1 out1.length c1, .pointer (some ⟨be, 0, none⟩), .pointer (some ⟨bh, 0, none⟩), .int .u32 m.line] ∧ Blk w be 147 (entA d1 (.slice Q1 d1.q.length qc1)) ∧ True) ?_
  intro w33 hN34
  replace hW := ((hW.new hN28).only hO32 ne_bw_b26).new hN34
  replace hE := ((hE.new hN28).only hO32 ne_be_b26).new hN34
  have hS9 := And.intro hW (And.intro hE trivial)
  refine Zhm 0 hS9 ?_
  refine Zhc 1 hS9 ?_
  refine Zhf 2 fo176_1 hS9 ?_
  refine Zhl 3 pl144 hS9 (fun _ ⟨hW, _⟩ => (hW.cell 1 rfl)) ?_
  refine Zhm 4 hS9 ?_
  refine Zhc 5 hS9 ?_
  refine Zhf 6 fo176_1 hS9 ?_
  refine Zhl 7 pl144 hS9 (fun _ ⟨hW, _⟩ => (hW.cell 1 rfl)) ?_
  refine Zhc 8 hS9 ?_
  refine Zhf 9 fo147_7 hS9 ?_
  refine Zhl (v := .slice Q1 d1.q.length qc1) 10 pl29 hS9 (fun _ ⟨_, hE, _⟩ => (hE.cell 10 rfl)) ?_
  refine Zht 11 rfl (.slice (cutA Q1 qc1 1 20) (d1.q.length - 1) (qc1 - 1)) hS9 (fun _ fr _ _ => x_slice_from Try.underlying29 sz35 rfl (fr.ev rfl) rfl (by omega)) ?_
  refine Zhn ?_
  refine Ztl ?_
  refine Zn ?_
  refine Zf fo147_7 ?_
  refine Zs1 (cs' := entA ({ d1 with q := d1.q.drop 1 }) (.slice (cutA Q1 qc1 1 20) (d1.q.length - 1) (qc1 - 1))) sz29 hE (show 10 < 11 by decide) rfl fun w35 hO36 hE => ?_
  refine Znn ?_
  replace hQ := (((hQ.new hN28).only hO32 (Apart.ne1 ap_Q1_b26)).new hN34).only hO36 (Apart.ne1 ap_Q1_be)
  have hQ2v := hQ.drop 1 (by omega)
  have hcut : ∀ g, inA (cutA Q1 qc1 1 20) g → inA Q1 g := fun g hg => cut_in hQ hg
  have hE2 : Blk w35 be 147 (entA { d1 with q := d1.q.drop 1 } (.slice (cutA Q1 qc1 1 20) (d1.q.drop 1).length (qc1 - 1))) := by rw [List.length_drop]; exact hE
  clear hE
  change View msgE w35 (cutA Q1 qc1 1 20) (qc1 - 1) _ at hQ2v
  have ap_Q2_bw : Apart (cutA Q1 qc1 1 20) bw := fun h => ap_Q1_bw (hcut _ h)
  have ap_Q2_be : Apart (cutA Q1 qc1 1 20) be := fun h => ap_Q1_be (hcut _ h)
  have ap_Q2_bh : Apart (cutA Q1 qc1 1 20) bh := fun h => ap_Q1_bh (hcut _ h)
  have ap_Q2_bi : Apart (cutA Q1 qc1 1 20) bi := fun h => ap_Q1_bi (hcut _ h)
  have ap_Q2_ig : Apart (cutA Q1 qc1 1 20) ig := fun h => ap_Q1_ig (hcut _ h)
  have ap_Q2_b26 : Apart (cutA Q1 qc1 1 20) b26 := fun h => ap_Q1_b26 (hcut _ h)
  have ap2_Q2_A1 : Apart2 (cutA Q1 qc1 1 20) A1 := fun k h1 h2 => ap2_Q1_A1 k (hcut k h1) h2
  have gA_Q2 : ∀ g, inA (cutA Q1 qc1 1 20) g → _ := fun g hg => gA_Q1 g (hcut g hg)
  clear hQ hcut
  intro a fr
  generalize cutA Q1 qc1 1 20 = Q2 at fr hE2 hQ2v ap_Q2_bw ap_Q2_be ap_Q2_bh ap_Q2_bi ap_Q2_ig ap_Q2_b26 ap2_Q2_A1 gA_Q2
  revert a
  have hE := hE2
  have hQ := hQ2v
  clear hE2 hQ2v
  intro a fr0
  have fr := fr0.sub (T' := [(0, .pointer (some ⟨bw, 0, none⟩)), (4, .pointer (some ⟨b26, 0, none⟩))]) ⟨rfl, rfl, trivial⟩
  clear fr0
  revert a
  refine Zgm ?_
  replace B29 := (B29.new hN34).only hO36 ne_be_b26.symm
  refine ZE msgE ag35 (B29.rangeE msgE) ?_
  replace hH := (((hH.new hN28).only hO32 ne_bh_b26).new hN34).only hO36 ne_be_bh.symm
  replace hI := (((hI.new hN28).only hO32 ne_bi_b26 ne_ig_b26).new hN34).only hO36 ne_be_bi.symm ne_be_ig.symm
  replace O1 := (((O1.new hN28).only hO32 (Apart.ne1 ap_A1_b26)).new hN34).only hO36 (Apart.ne1 ap_A1_be)
  replace hW := hW.only hO36 ne_bw_be
  refine Zk (args := #[.pointer (some ⟨bw, 0, none⟩), .agg (msgE.arr (d1.q.getD 0 msg0))]) cf99 (begin_l (d1.q.getD 0 msg0) ⟨hW, hE, hH, hI, hQ, O1, ⟨ne_bw_be, ne_bw_bh, ne_bw_bi, ne_bw_ig, ne_be_bh, ne_be_bi, ne_be_ig, ne_bh_bi, ne_bh_ig, ne_bi_ig, ap_Q2_bw, ap_Q2_be, ap_Q2_bh, ap_Q2_bi, ap_Q2_ig, ap_A1_bw, ap_A1_be, ap_A1_bh, ap_A1_bi, ap_A1_ig, ap2_Q2_A1⟩⟩ (by first | omega | (simp only [List.length_append, List.length_cons, List.length_nil, List.length_map, List.length_take]; omega)) hq1.2.2.1 ⟨hq1.1, hq1.2.1⟩ hq1.2.2.2) ?_
  rintro v w42 ⟨rfl, A37, ac38, R39, mv40, hN43⟩
  replace hF := (((hF.trNew hN28).loc hO32 (.inr g_b26)).trNew hN34).loc hO36 (.inl (.inr (.inl rfl)))
  have gA_A37 := gA_moved hF mv40 gA_A1
  clear hW hE hH hI hQ O1
  obtain ⟨hW, hE, hH, hI, hQ, O41, hS⟩ := R39
  have ap_A37_bw := hS.ap_A_bw
  have ap_A37_be := hS.ap_A_be
  have ap_A37_bh := hS.ap_A_bh
  have ap_A37_bi := hS.ap_A_bi
  have ap_A37_ig := hS.ap_A_ig
  have ap2_Q2_A37 := hS.ap2_Q_A
  have ap_Q2_bw := hS.ap_Q_bw
  have ap_Q2_be := hS.ap_Q_be
  have ap_Q2_bh := hS.ap_Q_bh
  have ap_Q2_bi := hS.ap_Q_bi
  have ap_Q2_ig := hS.ap_Q_ig
  refine Znl ?_
  refine Zb ?_
  intro a fr
  refine fx_next ?_
  have hbl := begin_len (bs := bs1) (d := { d1 with q := d1.q.drop 1 }) (m := d1.q.getD 0 msg0)
  have hbq := begin_qn (bs := bs1) (d := d1) (m := d1.q.getD 0 msg0)
  replace hF := hF.locS hN43 (fun i => (fun h => h.elim (fun e => by rw [e]; exact (.inl (.inl rfl))) (fun h => h.elim (fun e => by rw [e]; exact (.inl (.inr (.inl rfl)))) (fun h => h.elim (fun e => by rw [e]; exact (.inl (.inr (.inr (.inl rfl))))) (fun h => gA_A1 i h)))))
  exact ⟨_, (by rw [hbq]; omega), (beginF bs1 { d1 with q := d1.q.drop 1 } (d1.q.getD 0 msg0)).1, (beginF bs1 { d1 with q := d1.q.drop 1 } (d1.q.getD 0 msg0)).2.1, Q2, (qc1 - 1), A37, ac38, (out1 ++ (beginF bs1 { d1 with q := d1.q.drop 1 } (d1.q.getD 0 msg0)).2.2), rfl, fr.sub ⟨rfl, trivial⟩, hF, hW, hE, hH, hI, hQ, O41, (drain_step hgo.1 hgo.2 _).trans hp0, fun x hx => hp1 x (begin_ql hx), (by rw [List.length_append, hbq]; omega), ap_Q2_bw, ap_A37_bw, ap_Q2_be, ap_A37_be, ap_Q2_bh, ap_A37_bh, ap_Q2_bi, ap_Q2_ig, ap_A37_bi, ap_A37_ig, ap2_Q2_A37, gA_Q2, gA_A37⟩
 ·have hc22s := hc22
  try simp at hc22s
  refine Zex ?_
  refine Zxt ?_
  refine Zxt ?_
  refine Zxx ?_
  refine Zee rfl [] trivial ?_
  have e0 := hp0
  rw [drain_end (drain_stop hc22)] at e0
  simp only [addF, Prod.mk.injEq] at e0
  obtain ⟨rfl, rfl, rfl⟩ := e0
  rw [other_d hk]
  exact ⟨_, rfl, rfl, Q1, qc1, A1, c1, ⟨hW, hE, hH, hI, hQ, O1, ⟨ne_bw_be, ne_bw_bh, ne_bw_bi, ne_bw_ig, ne_be_bh, ne_be_bi, ne_be_ig, ne_bh_bi, ne_bh_ig, ne_bi_ig, ap_Q1_bw, ap_Q1_be, ap_Q1_bh, ap_Q1_bi, ap_Q1_ig, ap_A1_bw, ap_A1_be, ap_A1_bh, ap_A1_bi, ap_A1_ig, ap2_Q1_A1⟩⟩, hmv gA_A1 ap_A1_bw ap_A1_be ap_A1_ig, hmv gA_Q1 ap_Q1_bw ap_Q1_be ap_Q1_ig, hF⟩
end Go.Proofs.Ytflnlmibkbojcaa
namespace Go.Proofs.Ytflnlmibkbojcaa
open Go.RowKit
theorem ent_all (d : Ent) (A : Option Addr) (n c : Nat) : (entA d (.slice A n c)).all (·.oneCell') = true := by
  simp [entA, Value.oneCell']
theorem x_deferv {P : Program} {w : World} {ev : Operand → Value} {o : Oper} {t f : Nat} {args : List Operand} {ts : Array TypeId} {vs : List Value} {cs : Array Value} (ho : o.op = .defer { callee := .value (.tmp t), args := args.toArray, argTypes := ts }) (hf0 : ev (.tmp t) = .func (.func f) #[] cs) (hv : Evs ev args vs) :
    (execOp ev o).run P w = .ok (.defer { target := .fn (.func f) cs, args := vs.toArray }) w := by
  simp [execOp, ho, resolve, hf0, Deferred.ofValue, hv.map]
theorem hsize_c {w : World} {bi ig cap : Nat} {bs : List UInt8} (hI : Img 0 w bi ig cap bs) : Calls Try.prog 97 #[.pointer (some ⟨bi, 0, none⟩)] w (Ret fun v w' => v = .int .i64 ((bs.length : Nat) : Int) ∧ w' = w) :=
  (size_some bi _ _ cap w hI.cell).mono fun _ _ ⟨h1, h2⟩ => ⟨_, h1, rfl, h2.symm⟩
theorem hicopy_c {w : World} {bi ig cap : Nat} {bs : List UInt8} (hI : Img 0 w bi ig cap bs) : Calls Try.prog 70 #[.pointer (some ⟨bi, 0, none⟩)] w (Ret fun v w' => ∃ b g c, v = .pointer (some ⟨b, 0, none⟩) ∧ Img 0 w' b g c bs ∧ w.heap.size ≤ b ∧ w.heap.size ≤ g ∧ NE b g ∧ New w w') :=
  (copy_some hI).mono fun _ _ ⟨b, g, c, h1, h2, h3⟩ => ⟨_, h1, b, g, c, rfl, h2.mono (Nat.zero_le _), h2.hb, h2.hg, h2.ne, h3⟩
structure Slot where
  k : Nat
  b : Nat
  A : Option Addr
  cap : Nat
  born : Nat
  deriving DecidableEq
def Slot.me (s : Slot) : MapEntry := ⟨.int .u32 ((s.k : Nat) : Int), .pointer (some ⟨s.b, 0, none⟩), s.born⟩
def esOf (L : List Slot) : Array MapEntry := (L.map Slot.me).toArray
def entOf (E : List Ent) (k : Nat) : Ent := E.getD k ent0
structure SlotAt (w : World) (d : Ent) (s : Slot) : Prop where
  blk : Blk w s.b 147 (entA d (.slice s.A d.q.length s.cap))
  q : View msgE w s.A s.cap d.q
structure EntsAt (w : World) (F : Nat → Prop) (r : Nat) (E : List Ent) (L : List Slot) (c : Nat) : Prop where
  map : MapBlk w r (esOf L) c
  lt_ : ∀ s ∈ L, s.k < E.length ∧ s.born < c
  at_ : ∀ s ∈ L, SlotAt w (entOf E s.k) s
  keys : (L.map Slot.k).Nodup
  borns : (L.map Slot.born).Nodup
  no : ∀ k, k ∉ L.map Slot.k → entOf E k = ent0
  foot : ∀ g, F g ↔ g = r ∨ ∃ s ∈ L, g = s.b ∨ inA s.A g
  ap : ∀ s ∈ L, ¬ s.b = r ∧ ¬ inA s.A r
section
variable {w w' : World} {F S : Nat → Prop} {r c : Nat} {E : List Ent} {L : List Slot}
theorem SlotAt.only {d : Ent} {s : Slot} (h : SlotAt w d s) (k : Only S w w') (h1 : ¬ S s.b) (h2 : ∀ g, inA s.A g → ¬ S g) : SlotAt w' d s := ⟨h.blk.only k h1, h.q.only k h2⟩
theorem EntsAt.only (h : EntsAt w F r E L c) (k : Only S w w') (hs : ∀ g, F g → ¬ S g) : EntsAt w' F r E L c :=
  ⟨h.map.only k (hs _ ((h.foot _).2 (.inl rfl))), h.lt_, fun s hS => (h.at_ s hS).only k (hs _ ((h.foot _).2 (.inr ⟨s, hS, .inl rfl⟩))) fun g hg => hs _ ((h.foot _).2 (.inr ⟨s, hS, .inr hg⟩)), h.keys, h.borns, h.no, h.foot, h.ap⟩
theorem EntsAt.new (h : EntsAt w F r E L c) (k : New w w') : EntsAt w' F r E L c := h.only k fun _ _ => id
theorem EntsAt.lt (h : EntsAt w F r E L c) {g : Nat} (hg : F g) : g < w.heap.size := by
  rcases (h.foot g).1 hg with rfl | ⟨s, hs, rfl | hg⟩
  · exact h.map.lt
  · exact (h.at_ s hs).blk.lt
  · exact (h.at_ s hs).q.lt hg
theorem EntsAt.apart (h : EntsAt w F r E L c) {b : Nat} (hb : w.heap.size ≤ b) : ¬ F b := fun hi => by have := h.lt hi; omega
theorem find_no {k : Nat} : ∀ (L : List Slot) (j : Nat), k ∉ L.map Slot.k → Instr.findNow (.int .u32) (.int .u32 ((k : Nat) : Int)) (L.map Slot.me) j = some none
  | [], _, _ => rfl
  | s :: L, j, h => by
    have h1 : ¬ k = s.k := fun e => h (by simp [e])
    have h2 : k ∉ L.map Slot.k := fun e => h (by simp at e ⊢; exact .inr e)
    have hne : ((k : Int) == (s.k : Int)) = false := by simp; omega
    simp only [List.map_cons, Instr.findNow, Slot.me, Instr.sameNow, if_true, hne]
    exact find_no L (j + 1) h2
theorem find_yes {s : Slot} : ∀ (L : List Slot) (j : Nat), s ∈ L → (L.map Slot.k).Nodup → ∃ i, L[i]? = some s ∧ Instr.findNow (.int .u32) (.int .u32 ((s.k : Nat) : Int)) (L.map Slot.me) j = some (some (j + i, .pointer (some ⟨s.b, 0, none⟩)))
  | [], _, h, _ => absurd h (by simp)
  | t :: L, j, h, hn => by
    rw [List.map_cons, List.nodup_cons] at hn
    by_cases hk : s.k = t.k
    · have hst : s = t := by
        rcases List.mem_cons.1 h with h | h
        · exact h
        · exact absurd (List.mem_map.2 ⟨s, h, hk⟩) hn.1
      subst hst
      exact ⟨0, rfl, by simp [Instr.findNow, Slot.me, Instr.sameNow]⟩
    · have hL : s ∈ L := by
        rcases List.mem_cons.1 h with h | h
        · exact absurd (by rw [h]) hk
        · exact h
      obtain ⟨i, h1, h2⟩ := find_yes L (j + 1) hL hn.2
      have hne : ((s.k : Int) == (t.k : Int)) = false := by simp; omega
      refine ⟨i + 1, by simpa using h1, ?_⟩
      simp only [List.map_cons, Instr.findNow, Slot.me, Instr.sameNow, if_true, hne]
      rw [show j + (i + 1) = j + 1 + i by omega]
      exact h2
theorem EntsAt.find_some (h : EntsAt w F r E L c) {s : Slot} (hs : s ∈ L) : (Instr.findNow (.int .u32) (.int .u32 ((s.k : Nat) : Int)) (esOf L).toList 0).map (fun q => (match q with | some (_, u) => u | none => .pointer none, q.isSome)) = some (.pointer (some ⟨s.b, 0, none⟩), true) := by
  obtain ⟨i, _, h2⟩ := find_yes L 0 hs h.keys
  rw [show (esOf L).toList = L.map Slot.me from rfl, h2]
  rfl
theorem EntsAt.find_none {k : Nat} (hs : k ∉ L.map Slot.k) : (Instr.findNow (.int .u32) (.int .u32 ((k : Nat) : Int)) (esOf L).toList 0).map (fun q => (match q with | some (_, u) => u | none => .pointer none, q.isSome)) = some (.pointer none, false) := by
  rw [show (esOf L).toList = L.map Slot.me from rfl, find_no L 0 hs]
  rfl
end
section
variable {P : Program} {N : Nat × List Deferred} {T : List (Nat × Value)} {a : Act} {w : World} {Q : Exit → Act → World → Prop} {ops : Array Oper} {rest : List Oper} {o : Oper} {d : Nat}
theorem run_keyStays (k : IntKind) (n : Int) (w : World) : (Instr.keyThatStays (.int k n) (.int k n)).run P w = .ok (.int k n) w := by
  have hs : Instr.sameBits 10000 (.int k n) (.int k n) = true := by
    unfold Instr.sameBits
    simp
  unfold Instr.keyThatStays
  rw [if_pos hs]
  rfl
theorem run_update_new {t K E : TypeId} {k : IntKind} {n : Int} {v : Value} {r c : Nat} {es : Array MapEntry} (ht : P.underlying t = some (.map K E)) (hK : P.underlying K = some (.int k)) (hM : MapBlk w r es c) (hf : Instr.findNow (.int k) (.int k n) es.toList 0 = some none) :
    (Instr.mapUpdate t (.map (some r)) (.int k n) v).run P w = .ok () { w with heap := w.heap.setIfInBounds r (.map (es.push ⟨.int k n, v, c⟩) (c + 1)) } := by
  simp [Instr.mapUpdate, run_underlying ht, MapKept.run_getObj_map hM, run_checkInt' hK, run_findNow' hK hf, MapKept.run_setObj_map _ hM, Result.andThen]
theorem run_update_old {t K E : TypeId} {k : IntKind} {n : Int} {v v0 : Value} {r c i : Nat} {es : Array MapEntry} {e : MapEntry} (ht : P.underlying t = some (.map K E)) (hK : P.underlying K = some (.int k)) (hM : MapBlk w r es c) (hf : Instr.findNow (.int k) (.int k n) es.toList 0 = some (some (i, v0))) (he : es[i]? = some e) (hk : e.key = .int k n) :
    (Instr.mapUpdate t (.map (some r)) (.int k n) v).run P w = .ok () { w with heap := w.heap.setIfInBounds r (.map (es.modify i fun e => { e with key := .int k n, val := v }) c) } := by
  simp [Instr.mapUpdate, run_underlying ht, MapKept.run_getObj_map hM, run_checkInt' hK, run_findNow' hK hf, he, hk, run_keyStays, MapKept.run_setObj_map _ hM, Result.andThen]
theorem set_only {r : Nat} {o' : Obj} (h : r < w.heap.size) : Only (fun j => j = r) w { w with heap := w.heap.setIfInBounds r o' } := ⟨rfl, rfl, rfl, by simp, fun j hj hs => by simp [show r ≠ j from fun h => hs h.symm]⟩
theorem set_map {r c : Nat} {es : Array MapEntry} (h : r < w.heap.size) : MapBlk { w with heap := w.heap.setIfInBounds r (.map es c) } r es c := by
  unfold MapBlk
  simp [h]
end
section
variable {w : World} {F : Nat → Prop} {r c : Nat} {E : List Ent} {L : List Slot} {T : List (Nat × Value)} {N : Nat × List Deferred} {a : Act} {Q : Exit → Act → World → Prop} {ops : Array Oper} {rest : List Oper} {o : Oper}
theorem entOf_set {n k : Nat} {d : Ent} (hn : n < E.length) : entOf (E.set n d) k = if k = n then d else entOf E k := by
  unfold entOf
  simp only [List.getD, List.getElem?_set]
  by_cases h : n = k
  · subst h; simp [hn]
  · rw [if_neg h, if_neg (fun e => h e.symm)]
theorem ents_put {n be qc : Nat} {A : Option Addr} {d : Ent} (hM : EntsAt w F r E L c) (hn : n < E.length) (hB : Blk w be 147 (entA d (.slice A d.q.length qc))) (hQ : View msgE w A qc d.q) (h1 : ¬ be = r) (h2 : ¬ inA A r) :
    ∃ w1 L' c' F', (Instr.mapUpdate 138 (.map (some r)) (.int .u32 ((n : Nat) : Int)) (.pointer (some ⟨be, 0, none⟩))).run Try.prog w = .ok () w1 ∧ Only (fun j => j = r) w w1 ∧ EntsAt w1 F' r (E.set n d) L' c' ∧ (∀ g, F' g → F g ∨ g = be ∨ inA A g) := by
  have hlt := hM.map.lt
  by_cases hk : n ∈ L.map Slot.k
  · obtain ⟨s, hs, hsk⟩ := List.mem_map.1 hk
    subst hsk
    obtain ⟨i, hi, hf⟩ := find_yes L 0 hs hM.keys
    rw [Nat.zero_add] at hf
    obtain ⟨hil, hie⟩ := List.getElem?_eq_some_iff.1 hi
    let s' : Slot := ⟨s.k, be, A, qc, s.born⟩
    have he : (esOf L)[i]? = some s.me := by simp [esOf, hi]
    have hes : (esOf L).modify i (fun e => { e with key := .int .u32 ((s.k : Nat) : Int), val := .pointer (some ⟨be, 0, none⟩) }) = esOf (L.set i s') := by
      unfold esOf
      rw [List.modify_toArray, List.map_set]
      congr 1
      apply List.ext_getElem
      · simp
      · intro j h3 h4
        rw [List.getElem_modify, List.getElem_set]
        by_cases hj : i = j
        · subst hj
          rw [if_pos rfl, if_pos rfl, List.getElem_map, hie]
          rfl
        · rw [if_neg hj, if_neg hj]
    have hrun := run_update_old (P := Try.prog) (w := w) (v := .pointer (some ⟨be, 0, none⟩)) Try.underlying138 Try.underlying32 hM.map hf he rfl
    rw [hes] at hrun
    have hO := set_only (w := w) (r := r) (o' := .map (esOf (L.set i s')) c) hlt
    have mem : ∀ t ∈ L.set i s', t = s' ∨ (t ∈ L ∧ t.k ≠ s.k) := by
      intro t ht
      obtain ⟨j, hj, hjt⟩ := List.getElem_of_mem ht
      rw [List.getElem_set] at hjt
      split at hjt
      · exact .inl hjt.symm
      · rename_i hne
        rw [List.length_set] at hj
        refine .inr ⟨hjt ▸ List.getElem_mem _, fun e => hne ?_⟩
        have hnd := hM.keys
        have hp := List.pairwise_iff_getElem.1 hnd
        rcases Nat.lt_trichotomy i j with h | h | h
        · exact (hp i j (by simpa using hil) (by simpa using hj) h (by simp [hie, hjt, e])).elim
        · exact h
        · exact (hp j i (by simpa using hj) (by simpa using hil) h (by simp [hie, hjt, e])).elim
    have hkeys : (L.set i s').map Slot.k = L.map Slot.k := by
      rw [List.map_set]
      apply List.ext_getElem
      · simp
      · intro j h3 h4
        rw [List.getElem_set]
        split
        · rename_i hj; subst hj; simp [s', hie]
        · rfl
    have hborns : (L.set i s').map Slot.born = L.map Slot.born := by
      rw [List.map_set]
      apply List.ext_getElem
      · simp
      · intro j h3 h4
        rw [List.getElem_set]
        split
        · rename_i hj; subst hj; simp [s', hie]
        · rfl
    refine ⟨_, L.set i s', c, fun g => g = r ∨ ∃ s ∈ L.set i s', g = s.b ∨ inA s.A g, hrun, hO, ⟨set_map hlt, ?_, ?_, by rw [hkeys]; exact hM.keys, by rw [hborns]; exact hM.borns, ?_, fun g => Iff.rfl, ?_⟩, ?_⟩
    · intro t ht
      rw [List.length_set]
      rcases mem t ht with rfl | ⟨h, _⟩
      · exact hM.lt_ s hs
      · exact hM.lt_ t h
    · intro t ht
      rcases mem t ht with rfl | ⟨h, hne⟩
      · have : entOf (E.set s.k d) s'.k = d := by rw [entOf_set hn]; exact if_pos rfl
        rw [this]
        exact ⟨hB.only hO h1, hQ.only hO fun g hg (e : g = r) => h2 (e ▸ hg)⟩
      · rw [entOf_set hn, if_neg hne]
        exact (hM.at_ t h).only hO (hM.ap t h).1 fun g hg (e : g = r) => (hM.ap t h).2 (e ▸ hg)
    · intro k hk
      rw [hkeys] at hk
      rw [entOf_set hn, if_neg (fun e : k = s.k => hk (e ▸ List.mem_map.2 ⟨s, hs, rfl⟩))]
      exact hM.no k hk
    · intro t ht
      rcases mem t ht with rfl | ⟨h, _⟩
      · exact ⟨h1, h2⟩
      · exact hM.ap t h
    · rintro g (rfl | ⟨t, ht, hg⟩)
      · exact .inl ((hM.foot _).2 (.inl rfl))
      · rcases mem t ht with rfl | ⟨h, _⟩
        · exact .inr hg
        · exact .inl ((hM.foot _).2 (.inr ⟨t, h, hg⟩))
  · have hf := find_no (k := n) L 0 hk
    have hrun := run_update_new (P := Try.prog) (w := w) (v := .pointer (some ⟨be, 0, none⟩)) Try.underlying138 Try.underlying32 hM.map hf
    let s' : Slot := ⟨n, be, A, qc, c⟩
    have hes : (esOf L).push ⟨.int .u32 ((n : Nat) : Int), .pointer (some ⟨be, 0, none⟩), c⟩ = esOf (L ++ [s']) := by simp [esOf, s', Slot.me]
    rw [hes] at hrun
    have hO := set_only (w := w) (r := r) (o' := .map (esOf (L ++ [s'])) (c + 1)) hlt
    have mem : ∀ t ∈ L ++ [s'], t ∈ L ∨ t = s' := by simp
    refine ⟨_, L ++ [s'], c + 1, fun g => g = r ∨ ∃ s ∈ L ++ [s'], g = s.b ∨ inA s.A g, hrun, hO, ⟨set_map hlt, ?_, ?_, ?_, ?_, ?_, fun g => Iff.rfl, ?_⟩, ?_⟩
    · intro t ht
      rw [List.length_set]
      rcases mem t ht with h | rfl
      · have := hM.lt_ t h; omega
      · exact ⟨hn, Nat.lt_succ_self _⟩
    · intro t ht
      rcases mem t ht with h | rfl
      · rw [entOf_set hn, if_neg (fun e : t.k = n => hk (e ▸ List.mem_map.2 ⟨t, h, rfl⟩))]
        exact (hM.at_ t h).only hO (hM.ap t h).1 fun g hg (e : g = r) => (hM.ap t h).2 (e ▸ hg)
      · have : entOf (E.set n d) s'.k = d := by rw [entOf_set hn]; exact if_pos rfl
        rw [this]
        exact ⟨hB.only hO h1, hQ.only hO fun g hg (e : g = r) => h2 (e ▸ hg)⟩
    · rw [List.map_append, List.nodup_append]
      refine ⟨hM.keys, by simp, ?_⟩
      intro x hx y hy e
      simp [s'] at hy
      subst hy
      exact hk (e ▸ hx)
    · rw [List.map_append, List.nodup_append]
      refine ⟨hM.borns, by simp, ?_⟩
      intro x hx y hy e
      simp [s'] at hy
      subst hy
      obtain ⟨t, ht, hb⟩ := List.mem_map.1 hx
      have := (hM.lt_ t ht).2
      omega
    · intro k hk2
      rw [List.map_append, List.mem_append, not_or] at hk2
      rw [entOf_set hn, if_neg (fun e => hk2.2 (by simp [s', e]))]
      exact hM.no k hk2.1
    · intro t ht
      rcases mem t ht with h | rfl
      · exact hM.ap t h
      · exact ⟨h1, h2⟩
    · rintro g (rfl | ⟨t, ht, hg⟩)
      · exact .inl ((hM.foot _).2 (.inl rfl))
      · rcases mem t ht with h | rfl
        · exact .inl ((hM.foot _).2 (.inr ⟨t, h, hg⟩))
        · exact .inr hg
theorem fx_entPut {n be qc : Nat} {A : Option Addr} {d : Ent} {x y z : Operand} (hw : Region.wanted o (yielded ops a.tmps) = true) (ho : o.op = .mapUpdate 138 x y z) (hd : o.dst = none) (hx : a.eval x = .map (some r)) (hy : a.eval y = .int .u32 ((n : Nat) : Int)) (hz : a.eval z = .pointer (some ⟨be, 0, none⟩))
    (hM : EntsAt w F r E L c) (hn : n < E.length) (hB : Blk w be 147 (entA d (.slice A d.q.length qc))) (hQ : View msgE w A qc d.q) (h1 : ¬ be = r) (h2 : ¬ inA A r)
    (next : ∀ w1 L' c' F', Only (fun j => j = r) w w1 → EntsAt w1 F' r (E.set n d) L' c' → (∀ g, F' g → F g ∨ g = be ∨ inA A g) → wpList Try.prog ops Q rest a w1) : wpList Try.prog ops Q (o :: rest) a w := by
  obtain ⟨w1, L', c', F', hr, hO, hE, hF⟩ := ents_put hM hn hB hQ h1 h2
  refine fx_eff (w1 := w1) hw hd ?_ (next w1 L' c' F' hO hE hF)
  simp [execOp, ho, hx, hy, hz, hr, Result.andThen]
end
structure HSep (Fp : Nat → Prop) (b bi ig : Nat) (F : Nat → Prop) : Prop where
  ne_b_bi : NE b bi
  ne_b_ig : NE b ig
  fb : ¬ F b
  fbi : ¬ F bi
  fig : ¬ F ig
  foot : ∀ g, Fp g ↔ g = b ∨ g = bi ∨ g = ig ∨ F g
def HomeAt (w : World) (Fp : Nat → Prop) (b : Nat) (h : HD) : Prop :=
  ∃ bi ig cap r F L c, Blk w b 140 #[.pointer (some ⟨bi, 0, none⟩), .map (some r)] ∧ Img 0 w bi ig cap h.bs ∧ EntsAt w F r h.E L c ∧ HSep Fp b bi ig F ∧ h.E.length = h.bs.length / 16
section
variable {w w' : World} {Fp T : Nat → Prop} {b : Nat} {h : HD}
theorem HomeAt.only (H : HomeAt w Fp b h) (k : Only T w w') (hs : ∀ g, Fp g → ¬ T g) : HomeAt w' Fp b h := by
  obtain ⟨bi, ig, cap, r, F, L, c, hB, hI, hM, hS, hn⟩ := H
  exact ⟨bi, ig, cap, r, F, L, c, hB.only k (hs _ ((hS.foot _).2 (.inl rfl))), hI.only k (hs _ ((hS.foot _).2 (.inr (.inl rfl)))) (hs _ ((hS.foot _).2 (.inr (.inr (.inl rfl))))), hM.only k fun g hg => hs _ ((hS.foot _).2 (.inr (.inr (.inr hg)))), hS, hn⟩
theorem HomeAt.new (H : HomeAt w Fp b h) (k : New w w') : HomeAt w' Fp b h := H.only k fun _ _ => id
theorem HomeAt.lt (H : HomeAt w Fp b h) {g : Nat} (hg : Fp g) : g < w.heap.size := by
  obtain ⟨bi, ig, cap, r, F, L, c, hB, hI, hM, hS, hn⟩ := H
  rcases (hS.foot g).1 hg with rfl | rfl | rfl | hg
  · exact hB.lt
  · exact hI.lt.1
  · exact hI.lt.2
  · exact hM.lt hg
theorem HomeAt.apart (H : HomeAt w Fp b h) {c : Nat} (hc : w.heap.size ≤ c) : ¬ Fp c := fun hi => by have := H.lt hi; omega
theorem HomeAt.len (H : HomeAt w Fp b h) : h.E.length = h.bs.length / 16 ∧ 16 ≤ h.bs.length ∧ h.bs.length ≤ 4096 := by
  obtain ⟨bi, ig, cap, r, F, L, c, hB, hI, hM, hS, hn⟩ := H
  exact ⟨hn, hI.pos⟩
end
def TakeH (w : World) (Fp : Nat → Prop) (b : Nat) (x : HD × List Msg × Int) (v : Value) (w' : World) : Prop :=
  ∃ A ac Fp', v = .tuple #[.slice A x.2.1.length ac, .int .i64 x.2.2] ∧ Own msgE w' A ac x.2.1 ∧ (∀ g, inA A g → w.heap.size ≤ g) ∧ HomeAt w' Fp' b x.1 ∧ (∀ g, Fp' g → inA A g → False) ∧ (∀ g, Fp' g → Fp g ∨ w.heap.size ≤ g) ∧ Only Fp w w'
theorem takeH_no {w w' : World} {Fp : Nat → Prop} {b : Nat} {x : HD × List Msg × Int} {h : HD} {v : Value} (e : Int) (hx : x = (h, [], e)) (hv : v = .tuple #[.slice none 0 0, .int .i64 e]) (H : HomeAt w' Fp b h) (hn : New w w') : TakeH w Fp b x v w' := by
  subst hx hv
  exact ⟨none, 0, Fp, rfl, Own.nil, fun g hg => absurd hg (apart_none g), H, fun g _ hg => apart_none g hg, fun g hg => .inl hg, hn.mono fun _ _ h => h.elim⟩
end Go.Proofs.Ytflnlmibkbojcaa
namespace Go.Proofs.Ytflnlmibkbojcaa
open Go.RowKit
theorem hnone_c {w : World} {b bi r : Nat} (hB : Blk w b 140 #[.pointer (some ⟨bi, 0, none⟩), .map (some r)])  : Calls Try.prog 72 #[.pointer (some ⟨b, 0, none⟩)] w (Ret fun v w' => v = .bool false ∧ w' = w) := by
 refine Zen 12 Try.func72 ?_
 refine Zsr ?_
 refine Zan ?_
 refine Zsm ?_
 refine Zv (.bool false) (fun _ fr => x_peql Try.underlying90 rfl (fr.ev rfl) rfl rfl) ?_
 refine Zmm ?_
 refine Zn ?_
 refine Zf fo140_0 ?_
 refine Zd pl87 (hB.cell 0 rfl) ?_
 refine Zv (.bool false) (fun _ fr => x_peql Try.underlying87 rfl (fr.ev rfl) rfl rfl) ?_
 refine Zpf ?_
 refine Zar ?_
 refine Zre rfl [_] ⟨rfl, trivial⟩ ?_
 exact ⟨_, rfl, rfl, rfl⟩
theorem lines_r {w : World} {b bi r : Nat} (hB : Blk w b 140 #[.pointer (some ⟨bi, 0, none⟩), .map (some r)]) {ig cap : Nat} {bs : List UInt8} (hI : Img 0 w bi ig cap bs)  : Calls Try.prog 85 #[.pointer (some ⟨b, 0, none⟩)] w (Ret fun v w' => v = .int .i64 ((bs.length / 16 : Nat) : Int) ∧ w' = w) := by
 have hp := hI.pos
 refine Zen 11 Try.func85 ?_
 refine Zsr ?_
 refine Zaq ?_
 refine Zsm ?_
 refine Zk cf72 (hnone_c hB) ?_
 rintro v w9 ⟨rfl, hw9⟩
 obtain rfl := hw9.symm
 refine Znf ?_
 refine Zkn ?_
 refine Zsm ?_
 refine Zn ?_
 refine Zf fo140_0 ?_
 refine Zd pl87 (hB.cell 0 rfl) ?_
 refine Zk cf97 (hsize_c hI) ?_
 rintro v w9 ⟨rfl, hw9⟩
 obtain rfl := hw9.symm
 refine Zv (.int .i64 ((bs.length / 16 : Nat) : Int)) (fun _ fr => x_quo rfl (fr.ev rfl) rfl (by decide) (quo_nat _ _ (by omega))) ?_
 refine Zar ?_
 refine Zre rfl [_] ⟨rfl, trivial⟩ ?_
 exact ⟨_, rfl, rfl, rfl⟩
theorem clonem_nil (w : World) : Calls Try.prog 105 #[.slice none 0 0] w (Ret fun v w' => v = .slice none 0 0 ∧ w' = w) := by
 refine Zen 8 Try.func105 ?_
 refine Zsr ?_
 refine Zaq ?_
 refine Zsm ?_
 refine Zv (.bool true) (fun _ fr => x_seql Try.underlying29 rfl (fr.ev rfl) rfl rfl) ?_
 refine Znt ?_
 refine Zsr ?_
 refine Zar ?_
 refine Zr1 ?_
 refine Zre rfl [_] ⟨rfl, trivial⟩ ?_
 exact ⟨_, rfl, rfl, rfl⟩
theorem clonem_some {w : World} {A : Option Addr} {cap : Nat} {l : List Msg} (hV : View msgE w A cap l) {ad : Addr} (hA : A = some ad) (hl : l.length ≤ 1000000) : Calls Try.prog 105 #[.slice A l.length cap] w (Ret fun v w' => ∃ A' cap', v = .slice A' (l).length cap' ∧ Own msgE w' A' cap' (l) ∧ (∀ g, inA A' g → w.heap.size ≤ g) ∧ New w w') := by
 have hVl := hV.len
 unfold maxLen at hVl
 have hF := Only.refl (fun _ => False) w
 refine Zen 8 Try.func105 ?_
 refine Zsr ?_
 refine Zaq ?_
 refine Zsm ?_
 refine Zv (.bool false) (fun _ fr => x_seql Try.underlying29 rfl (fr.ev rfl) rfl (by rw [hA]; rfl)) ?_
 refine Znf ?_
 refine Zkn ?_
 refine Zsr ?_
 intro a fr
 refine fx_build0 (E := msgE) elMsg fr rfl rfl (by decide) rfl ?_
 clear fr a
 intro A1 w2 hN3 O4 hA5
 have gA_A1 := gA_new hF hA5
 refine Zm ?_
 intro a fr
 replace hV := hV.new hN3
 refine fx_append (E := msgE) (l := []) (l' := l) elMsg fr rfl rfl (by decide) rfl (fr.ev rfl) (fr.ev rfl) (by first | rfl | (simp; done) | (simp; omega)) (by first | rfl | (simp; done) | (simp; omega)) O4 hV (by first | omega | (simp; omega)) (by first | (unfold maxLen; done) | (unfold maxLen; first | omega | (simp only [List.length_append, List.length_cons, List.length_nil]; omega) | (simp; done) | (simp; omega))) ?_
 clear fr a
 intro A6 cap7 w8 O9 hO10 mv11
 replace hF := hF.trNew hN3
 have gA_A6 := gA_moved hF mv11 gA_A1
 clear O4
 refine Zar ?_
 refine Zre rfl [_] ⟨rfl, trivial⟩ ?_
 replace hF := hF.locA hO10 gA_A1
 exact ⟨_, rfl, _, _, rfl, O9, fun g hg => (gA_A6 g hg).resolve_left (fun h => h), hF⟩
theorem clonem_c {w : World} {A : Option Addr} {cap : Nat} {l : List Msg} (hV : View msgE w A cap l) (hl : l.length ≤ 1000000) : Calls Try.prog 105 #[.slice A l.length cap] w (Ret fun v w' => ∃ A' cap', v = .slice A' (l).length cap' ∧ Own msgE w' A' cap' (l) ∧ (∀ g, inA A' g → w.heap.size ≤ g) ∧ New w w') := by
  cases hA : A with
  | none =>
    subst hA
    obtain ⟨rfl, rfl⟩ := hV.none_
    refine (clonem_nil w).mono ?_
    rintro e w' ⟨v, rfl, rfl, rfl⟩
    exact ⟨_, rfl, none, 0, rfl, Own.nil, fun g hg => absurd hg (apart_none g), Only.refl _ _⟩
  | some ad =>
    subst hA
    exact clonem_some hV rfl hl
def zv4 : Value := .agg (#[.int .i64 0, .bool false, .bool false, .bool false, .bool false, .bool false, .int .i64 0, .int .i64 0, .int .i64 0, .bool false, .slice none 0 0])
theorem copied_c {w : World} {Q : Option Addr} {qc : Nat} {d : Ent} (hQ : View msgE w Q qc d.q) (hl : d.q.length ≤ 1000000) : Calls Try.prog 98 #[.agg (entA d (.slice Q d.q.length qc))] w (Ret fun v w' => ∃ Q' qc', v = .agg (entA d (.slice Q' d.q.length qc')) ∧ Own msgE w' Q' qc' d.q ∧ (∀ g, inA Q' g → w.heap.size ≤ g) ∧ New w w') := by
 have hF := Only.refl (fun _ => False) w
 refine Zen 8 Try.func98 ?_
 refine Zsr ?_
 refine Znb (cs := entA d (.slice Q d.q.length qc)) fun b1 w2 hN3 B4 hb5 => ?_
 have g_b1 := hF.sz hb5
 refine Zna (z := zv4) (cs := #[.int .i64 0, .bool false, .bool false, .bool false, .bool false, .bool false, .int .i64 0, .int .i64 0, .int .i64 0, .bool false, .slice none 0 0]) (by kernel_rfl) fun b6 w7 hN8 B9 hb10 => ?_
 have ne_b1_b6 := nelt B4.lt hb10
 replace hF := hF.trNew hN3
 have g_b6 := hF.sz hb10
 refine Znn ?_
 refine Zsr ?_
 refine Zf fo147_7 ?_
 replace B4 := B4.new hN8
 refine Zd (v := .slice Q d.q.length qc) pl29 (B4.cell 10 rfl) ?_
 replace hQ := (hQ.new hN3).new hN8
 refine Zk (args := #[.slice Q d.q.length qc]) cf105 (clonem_c hQ (by omega)) ?_
 rintro v w15 ⟨A11, cap12, rfl, O13, hA14, hN16⟩
 have ap_A11_b1 : Apart A11 b1 := new_apart hA14 B4.lt
 have ap_A11_b6 : Apart A11 b6 := new_apart hA14 B9.lt
 replace hF := hF.trNew hN8
 have gN_A11 := fun g (hg : inA A11 g) => Nat.le_trans hF.size (hA14 g hg)
 refine Zf fo147_7 ?_
 replace B4 := B4.new hN16
 refine Zs1 (cs' := entA ({ d with q := d.q }) (.slice A11 d.q.length cap12)) sz29 B4 (show 10 < 11 by decide) rfl fun w17 hO18 B4 => ?_
 refine Znn ?_
 refine Zsr ?_
 refine Zv _ (fun _ fr => x_loadS ag147 rfl (fr.ev rfl) rfl B4.range) ?_
 replace B9 := (B9.new hN16).only hO18 ne_b1_b6.symm
 refine ZsS sz147 (ent_all _ _ _ _) B9 rfl rfl fun w19 hO20 B9 => ?_
 refine Znn ?_
 refine Zrt ?_
 refine Zre rfl [_] ⟨⟨_, rfl, x_loadV ag147 rfl B9.range⟩, trivial⟩ ?_
 replace hF := ((hF.trNew hN16).loc hO18 (.inr g_b1)).loc hO20 (.inr g_b6)
 replace O13 := (O13.only hO18 (Apart.ne1 ap_A11_b1)).only hO20 (Apart.ne1 ap_A11_b6)
 exact ⟨_, rfl, A11, cap12, rfl, O13, gN_A11, hF⟩
theorem of_1 {w : World} {b bi r : Nat} (hB : Blk w b 140 #[.pointer (some ⟨bi, 0, none⟩), .map (some r)]) {L : List Slot} {c : Nat} {line : Int} (hMB : MapBlk w r (esOf L) c) {sb : Nat} (hf : (Instr.findNow (.int .u32) (.int .u32 line) (esOf L).toList 0).map (fun q => (match q with | some (_, u) => u | none => .pointer none, q.isSome)) = some (.pointer (some ⟨sb, 0, none⟩), true)) {d : Ent} {Q : Option Addr} {qc : Nat} (hE : Blk w sb 147 (entA d (.slice Q d.q.length qc))) (hQ : View msgE w Q qc d.q) (hl : d.q.length ≤ 1000000) : Calls Try.prog 87 #[.pointer (some ⟨b, 0, none⟩), .int .u32 line] w (Ret fun v w' => ∃ Q' qc', v = .agg (entA d (.slice Q' d.q.length qc')) ∧ Own msgE w' Q' qc' d.q ∧ (∀ g, inA Q' g → w.heap.size ≤ g) ∧ New w w') := by
 have hF := Only.refl (fun _ => False) w
 refine Zen 19 Try.func87 ?_
 refine Zsr ?_
 refine Zna (z := zv4) (cs := #[.int .i64 0, .bool false, .bool false, .bool false, .bool false, .bool false, .int .i64 0, .int .i64 0, .int .i64 0, .bool false, .slice none 0 0]) (by kernel_rfl) fun b1 w2 hN3 B4 hb5 => ?_
 have g_b1 := hF.sz hb5
 refine Znq ?_
 refine Zsm ?_
 refine Zn ?_
 refine Zf fo140_1 ?_
 replace hB := hB.new hN3
 refine Zd (v := .map (some r)) pl138 (hB.cell 1 rfl) ?_
 refine Zm ?_
 replace hMB := hMB.new hN3
 refine Zv (.pointer (some ⟨sb, 0, none⟩)) (fun _ fr => x_lookup (k := .u32) (ok := false) (v := .pointer (some ⟨sb, 0, none⟩)) (b := true) Try.underlying138 Try.underlying32 rfl (fr.ev rfl) (fr.ev rfl) hMB (z := .pointer none) (by kernel_rfl) hf) ?_
 refine Zan ?_
 refine Zsm ?_
 refine Zv (.bool true) (fun _ fr => x_pneq Try.underlying144 rfl (fr.ev rfl) rfl rfl) ?_
 refine Znt ?_
 refine Zsm ?_
 refine Zn ?_
 replace hE := hE.new hN3
 refine Zv _ (fun _ fr => x_loadS ag147 rfl (fr.ev rfl) rfl hE.range) ?_
 replace hQ := hQ.new hN3
 refine Zk (args := #[.agg (entA d (.slice Q d.q.length qc))]) cf98 (copied_c (d := d) hQ (by omega)) ?_
 rintro v w10 ⟨Q6, qc7, rfl, OQ8, hA9, hN11⟩
 have ap_Q6_b1 : Apart Q6 b1 := new_apart hA9 B4.lt
 replace hF := hF.trNew hN3
 have gN_Q6 := fun g (hg : inA Q6 g) => Nat.le_trans hF.size (hA9 g hg)
 replace B4 := B4.new hN11
 refine ZsS sz147 (ent_all _ _ _ _) B4 rfl rfl fun w12 hO13 B4 => ?_
 refine Znn ?_
 refine Zrt ?_
 refine Zr1 ?_
 refine Zre rfl [_] ⟨⟨_, rfl, x_loadV ag147 rfl B4.range⟩, trivial⟩ ?_
 replace hF := (hF.trNew hN11).loc hO13 (.inr g_b1)
 replace OQ8 := OQ8.only hO13 (Apart.ne1 ap_Q6_b1)
 exact ⟨_, rfl, Q6, qc7, rfl, OQ8, gN_Q6, hF⟩
theorem of_0 {w : World} {b bi r : Nat} (hB : Blk w b 140 #[.pointer (some ⟨bi, 0, none⟩), .map (some r)]) {L : List Slot} {c : Nat} {line : Int} (hMB : MapBlk w r (esOf L) c) (hf : (Instr.findNow (.int .u32) (.int .u32 line) (esOf L).toList 0).map (fun q => (match q with | some (_, u) => u | none => .pointer none, q.isSome)) = some (.pointer none, false))  : Calls Try.prog 87 #[.pointer (some ⟨b, 0, none⟩), .int .u32 line] w (Ret fun v w' => v = .agg (entA ent0 (.slice none 0 0)) ∧ New w w') := by
 have hF := Only.refl (fun _ => False) w
 refine Zen 19 Try.func87 ?_
 refine Zsr ?_
 refine Zna (z := zv4) (cs := #[.int .i64 0, .bool false, .bool false, .bool false, .bool false, .bool false, .int .i64 0, .int .i64 0, .int .i64 0, .bool false, .slice none 0 0]) (by kernel_rfl) fun b1 w2 hN3 B4 hb5 => ?_
 have g_b1 := hF.sz hb5
 refine Znq ?_
 refine Zsm ?_
 refine Zn ?_
 refine Zf fo140_1 ?_
 replace hB := hB.new hN3
 refine Zd (v := .map (some r)) pl138 (hB.cell 1 rfl) ?_
 refine Zm ?_
 replace hMB := hMB.new hN3
 refine Zv (.pointer none) (fun _ fr => x_lookup (k := .u32) (ok := false) (v := .pointer none) (b := false) Try.underlying138 Try.underlying32 rfl (fr.ev rfl) (fr.ev rfl) hMB (z := .pointer none) (by kernel_rfl) hf) ?_
 refine Zan ?_
 refine Zsm ?_
 refine Zv (.bool false) (fun _ fr => x_pneq Try.underlying144 rfl (fr.ev rfl) rfl rfl) ?_
 refine Znf ?_
 refine Zkn ?_
 refine Zsr ?_
 refine Zv (.agg (#[.int .i64 (-1), .bool false, .bool false, .bool false, .bool false, .bool false, .int .i64 0, .int .i64 0, .int .i64 0, .bool false, .slice none 0 0])) (fun _ _ => x_build (cells := #[.int .i64 (-1), .bool false, .bool false, .bool false, .bool false, .bool false, .int .i64 0, .int .i64 0, .int .i64 0, .bool false, .slice none 0 0]) rfl (by kernel_rfl)) ?_
 refine ZsS sz147 (by simp [Value.oneCell']) B4 rfl rfl (ho := rfl) (hy := rfl) fun w6 hO7 B4 => ?_
 refine Znn ?_
 refine Zrt ?_
 refine Zre rfl [_] ⟨⟨_, rfl, x_loadV ag147 rfl B4.range⟩, trivial⟩ ?_
 replace hF := (hF.trNew hN3).loc hO7 (.inr g_b1)
 exact ⟨_, rfl, rfl, hF⟩
theorem hof_c {w : World} {b bi r : Nat} (hB : Blk w b 140 #[.pointer (some ⟨bi, 0, none⟩), .map (some r)]) {F : Nat → Prop} {E : List Ent} {L : List Slot} {c : Nat} (hM : EntsAt w F r E L c) (line : Int) (h0 : 0 ≤ line) (hl : (entOf E line.toNat).q.length ≤ 1000000) : Calls Try.prog 87 #[.pointer (some ⟨b, 0, none⟩), .int .u32 line] w (Ret fun v w' => ∃ Q' qc', v = .agg (entA (entOf E line.toNat) (.slice Q' (entOf E line.toNat).q.length qc')) ∧ Own msgE w' Q' qc' (entOf E line.toNat).q ∧ (∀ g, inA Q' g → w.heap.size ≤ g) ∧ New w w') := by
  have hn : line = ((line.toNat : Nat) : Int) := (Int.toNat_of_nonneg h0).symm
  by_cases hk : line.toNat ∈ L.map Slot.k
  · obtain ⟨s, hs, hsk⟩ := List.mem_map.1 hk
    have ha := hM.at_ s hs
    have hf := hM.find_some hs
    rw [hsk] at ha
    rw [hsk, ← hn] at hf
    exact of_1 hB hM.map hf ha.blk ha.q hl
  · have hf := EntsAt.find_none (L := L) hk
    rw [← hn] at hf
    refine (of_0 hB hM.map hf).mono ?_
    rintro e w' ⟨v, rfl, rfl, hn⟩
    rw [hM.no _ hk]
    exact ⟨_, rfl, none, 0, rfl, Own.nil, fun g hg => absurd hg (apart_none g), hn⟩
end Go.Proofs.Ytflnlmibkbojcaa
namespace Go.Proofs.Ytflnlmibkbojcaa
open Go.RowKit
theorem hcaught_idle (cl ce : Nat) (w : World) : CallsD Try.prog 86 #[.pointer (some ⟨cl, 0, none⟩), .pointer (some ⟨ce, 0, none⟩)] (.returning) w (fun e u' w' => e = .returned (.tuple #[]) ∧ u' = .returning ∧ w' = w) := by
 refine fx_enterS (args := #[.pointer (some ⟨cl, 0, none⟩), .pointer (some ⟨ce, 0, none⟩)]) Try.func86 rfl (N := (13, [])) (T := [(0, .pointer (some ⟨cl, 0, none⟩)), (1, .pointer (some ⟨ce, 0, none⟩))]) rfl (show 2 ≤ 13 by decide) ⟨rfl, rfl, trivial⟩ rfl rfl (by decide) (fun _ _ => rfl) (u1 := .returning) (rv := .nilIface) (.inl ⟨rfl, rfl, rfl⟩) fun c₀ cs a fr => ?_
 refine wp_block ?_
 refine wp_seq ?_
 refine wp_region_lit ?_
 refine fx_val (v := .bool true) fr rfl rfl (by first | decide | simp) (x_ieqn Try.underlying20 rfl (fr.ev rfl) rfl) ?_
 clear fr a; intro a fr
 refine wpList_nil ?_
 refine fx_next ?_
 refine fx_cond_t fr rfl ?_
 refine wp_region_lit ?_
 refine fx_val (v := .nilIface) fr rfl rfl (by first | decide | simp) (x_assign rfl (fr.ev rfl)) ?_
 clear fr a; intro a fr
 refine wpList_nil ?_
 refine fx_blk ?_
 refine fx_retS fr [] [] rfl trivial rfl ?_
 exact ⟨rfl, rfl, rfl⟩
theorem hcaught_stop {w : World} {cl ce : Nat} {y : Value} {x0 : Int} (hC : Blk w cl 29 #[y]) (hK : Blk w ce 26 #[.int .i64 x0]) (ne_cl_ce : NE cl ce) (why : Int) : CallsD Try.prog 86 #[.pointer (some ⟨cl, 0, none⟩), .pointer (some ⟨ce, 0, none⟩)] (.panicking [{ v := .iface 170 (.agg #[.int .i64 why]), recovered := false }]) w (fun e u' w' => e = .returned (.tuple #[]) ∧ u' = .panicking [{ v := .iface 170 (.agg #[.int .i64 why]), recovered := true }] ∧ Blk w' cl 29 #[.slice none 0 0] ∧ Blk w' ce 26 #[.int .i64 why] ∧ Only (fun k => k = cl ∨ k = ce) w w') := by
 have hF := Only.refl (fun k => k = cl ∨ k = ce) w
 refine fx_enterS (args := #[.pointer (some ⟨cl, 0, none⟩), .pointer (some ⟨ce, 0, none⟩)]) Try.func86 rfl (N := (13, [])) (T := [(0, .pointer (some ⟨cl, 0, none⟩)), (1, .pointer (some ⟨ce, 0, none⟩))]) rfl (show 2 ≤ 13 by decide) ⟨rfl, rfl, trivial⟩ rfl rfl (by decide) (fun _ _ => rfl) (u1 := .panicking [{ v := .iface 170 (.agg #[.int .i64 why]), recovered := true }]) (rv := .iface 170 (.agg #[.int .i64 why])) (.inr ⟨rfl, rfl⟩) fun c₀ cs a fr => ?_
 refine wp_block ?_
 refine wp_seq ?_
 refine wp_region_lit ?_
 refine fx_val (v := .bool false) fr rfl rfl (by first | decide | simp) (x_ieql Try.underlying20 rfl (fr.ev rfl) rfl) ?_
 clear fr a; intro a fr
 refine wpList_nil ?_
 refine fx_next ?_
 refine fx_cond_f fr rfl ?_
 refine wp_seq ?_
 refine wp_region_lit ?_
 refine fx_val (v := .tuple #[.agg (#[.int .i64 why]), .bool true]) fr rfl rfl (by first | decide | simp) (x_typeAssert rfl (fr.ev rfl) Try.underlying170 rfl) ?_
 clear fr a; intro a fr
 refine fx_val (v := .bool true) fr rfl rfl (by first | decide | simp) (x_extract rfl (fr.ev rfl) rfl) ?_
 clear fr a; intro a fr
 refine fx_val (v := .agg (#[.int .i64 why])) fr rfl rfl (by first | decide | simp) (x_extract rfl (fr.ev rfl) rfl) ?_
 clear fr a; intro a fr
 refine wpList_nil ?_
 refine fx_next ?_
 refine fx_cond_t fr rfl ?_
 refine wp_seq ?_
 refine wp_region_lit ?_
 refine fx_new fr rfl rfl (by first | decide | simp) (x_alloc (z := .agg (#[.int .i64 0])) (cs := #[.int .i64 0]) rfl (by kernel_rfl) rfl) ?_
 clear fr a
 intro b1 w2 hN3 B4 hb5 a fr
 have ne_cl_b1 : NE cl b1 := NE.mk (Nat.lt_of_lt_of_le hC.lt hb5)
 have ne_ce_b1 : NE ce b1 := NE.mk (Nat.lt_of_lt_of_le hK.lt hb5)
 have g_b1 := Nat.le_trans hF.size hb5
 replace hC := hC.new hN3
 replace hK := hK.new hN3
 replace hF := hF.trNew hN3
 refine fx_storeS sz170 rfl rfl rfl (fr.ev rfl) (fr.ev rfl) (by simp [Value.oneCell']) B4 rfl rfl fun w6 hO7 hBq => ?_
 replace hC := hC.only hO7 (by first | exact ne_cl_b1 | exact ne_b1_cl.symm | (show ¬ cl = b1; omega))
 replace hK := hK.only hO7 (by first | exact ne_ce_b1 | exact ne_b1_ce.symm | (show ¬ ce = b1; omega))
 replace hF := hF.loc hO7 (.inr g_b1)
 replace B4 := hBq
 clear hBq
 refine wpList_nil ?_
 refine fx_next ?_
 refine fx_heldT (n := 3) (k := 3) (fun w => Blk w ce 26 #[.int .i64 x0] ∧ Blk w b1 170 (#[.int .i64 why]) ∧ True) (by kernel_rfl) (by kernel_rfl) rfl ?_
 intro w8 hN9
 replace hC := hC.new hN9
 replace hK := hK.new hN9
 replace B4 := B4.new hN9
 replace hF := hF.trNew hN9
 refine fx_take (i := 0) (v := .pointer (some ⟨b1, 0, none⟩)) fr rfl (by kernel_rfl) rfl rfl (by first | decide | simp) (fun _ _ _ h => h) (fun _ ⟨hK, B4, _⟩ => x_fieldAddr fo170_0 rfl (fr.ev rfl) rfl) ⟨hK, B4, trivial⟩ ?_
 clear fr a; intro a fr
 refine fx_take (i := 1) (v := .int .i64 why) fr rfl (by kernel_rfl) rfl rfl (by first | decide | simp) (fun _ _ _ h => h) (fun _ ⟨hK, B4, _⟩ => x_load1 pl26 rfl (fr.ev rfl) (B4.cell 0 rfl)) ⟨hK, B4, trivial⟩ ?_
 clear fr a; intro a fr
 refine fx_one (i := 2) (by kernel_rfl) (fx_op rfl ?_)
 refine fx_store1 sz29 rfl rfl rfl (fr.ev rfl) rfl rfl hC (show 0 < 1 by decide) (cs' := #[.slice none 0 0]) rfl fun w10 hO11 hBq => ?_
 replace hK := hK.only hO11 (by first | exact ne_ce_cl | exact ne_cl_ce.symm | (show ¬ ce = cl; omega))
 replace B4 := B4.only hO11 (by first | exact ne_b1_cl | exact ne_cl_b1.symm | (show ¬ b1 = cl; omega))
 replace hF := hF.loc hO11 (.inl (.inl rfl))
 replace hC := hBq
 clear hBq
 refine wpList_nil ?_
 refine ⟨⟨hK, B4, trivial⟩, ?_⟩
 refine fx_hdone (by kernel_rfl) ?_
 refine fx_tail ?_
 refine fx_store1 sz26 rfl rfl rfl (fr.ev rfl) (fr.ev rfl) rfl hK (show 0 < 1 by decide) (cs' := #[.int .i64 why]) rfl fun w12 hO13 hBq => ?_
 replace B4 := B4.only hO13 (by first | exact ne_b1_ce | exact ne_ce_b1.symm | (show ¬ b1 = ce; omega))
 replace hC := hC.only hO13 (by first | exact ne_cl_ce | exact ne_ce_cl.symm | (show ¬ cl = ce; omega))
 replace hF := hF.loc hO13 (.inl (.inr rfl))
 replace hK := hBq
 clear hBq
 refine wpList_nil ?_
 refine fx_blk ?_
 refine fx_retS fr [] [] rfl trivial rfl ?_
 exact ⟨rfl, rfl, hC, hK, hF⟩
end Go.Proofs.Ytflnlmibkbojcaa
namespace Go.Proofs.Ytflnlmibkbojcaa
open Go.RowKit
def zv5 : Value := .slice none 0 0
theorem htake_a1 {w : World} {Fp : Nat → Prop} {b : Nat} {h : HD} (H : HomeAt w Fp b h) (m : Msg) (hx : chk m ≠ 0) : Calls Try.prog 71 #[.pointer (some ⟨b, 0, none⟩), .agg (msgE.arr m)] w (Ret fun v w' => v = .tuple #[.slice none 0 0, .int .i64 2] ∧ HomeAt w' Fp b h ∧ New w w') := by
 have H0 := H
 obtain ⟨bi, ig, cap, r, FpE, L, c, hB, hI, hM, hP, hEn⟩ := H0
 have hmn := m.hn
 have hpos := hI.pos
 have hrE := (hM.foot r).2 (.inl rfl)
 have hF := Only.refl (fun _ => False) w
 refine ZeD 71 Try.func71 ?_
 refine Zsr ?_
 refine Znb (cs := msgE.arr m) fun b1 w2 hN3 B4 hb5 => ?_
 refine Zna (z := zv5) (cs := #[.slice none 0 0]) (by kernel_rfl) fun b6 w7 hN8 B9 hb10 => ?_
 replace H := H.new hN3
 have ap_Fp_b6 := H.apart hb10
 replace hF := hF.trNew hN3
 have g_b6 := hF.sz hb10
 refine Zna (z := .int .i64 0) (cs := #[.int .i64 0]) (by kernel_rfl) fun b11 w12 hN13 B14 hb15 => ?_
 replace H := H.new hN8
 have ap_Fp_b11 := H.apart hb15
 have ne_b6_b11 := nelt B9.lt hb15
 replace hF := hF.trNew hN8
 have g_b11 := hF.sz hb15
 refine Znq ?_
 refine Zbl ?_
 refine Zsm ?_
 replace hB := ((hB.new hN3).new hN8).new hN13
 refine Zk cf72 (hnone_c hB) ?_
 rintro v w9 ⟨rfl, hw9⟩
 obtain rfl := hw9.symm
 refine Zan ?_
 refine Zcf ?_
 refine Zsr ?_
 replace B4 := (B4.new hN8).new hN13
 refine ZE msgE ag35 (B4.rangeE msgE) ?_
 refine Zk cf48 (chk_c m _) ?_
 rintro v w18 ⟨rfl, hN19⟩
 refine Zv (.bool true) (fun _ fr => x_neq rfl (fr.ev rfl) rfl (decide_eq_true hx)) ?_
 refine Zm ?_
 refine Zss ?_
 refine Zs ?_
 refine Zpt ?_
 refine Zan ?_
 refine Zct ?_
 refine Zsr ?_
 replace B9 := (B9.new hN13).new hN19
 refine Zs1 (cs' := #[.slice none 0 0]) sz29 B9 (show 0 < 1 by decide) rfl fun w20 hO21 B9 => ?_
 replace B14 := (B14.new hN19).only hO21 ne_b6_b11.symm
 refine Zs1 (cs' := #[.int .i64 2]) sz26 B14 (show 0 < 1 by decide) rfl fun w22 hO23 B14 => ?_
 refine Znn ?_
 refine Zrt ?_
 refine Zr21 ?_
 intro a fr
 replace B9 := B9.only hO23 ne_b6_b11
 refine fx_retD0 fr [.cell 4 29, .cell 5 26] [.slice none 0 0, .int .i64 2] rfl ⟨⟨_, rfl, x_loadV1 pl29 (B9.cell 0 rfl)⟩, ⟨_, rfl, x_loadV1 pl26 (B14.cell 0 rfl)⟩, trivial⟩ rfl ?_
 replace H := (((H.new hN13).new hN19).only hO21 (ne1P ap_Fp_b6)).only hO23 (ne1P ap_Fp_b11)
 replace hF := (((hF.trNew hN13).trNew hN19).loc hO21 (.inr g_b6)).loc hO23 (.inr g_b11)
 exact ⟨_, rfl, rfl, H, hF⟩
theorem htake_a2 {w : World} {Fp : Nat → Prop} {b : Nat} {h : HD} (H : HomeAt w Fp b h) (m : Msg) (hc : ¬ chk m ≠ 0) (hx : m.dst ≠ 4) : Calls Try.prog 71 #[.pointer (some ⟨b, 0, none⟩), .agg (msgE.arr m)] w (Ret fun v w' => v = .tuple #[.slice none 0 0, .int .i64 2] ∧ HomeAt w' Fp b h ∧ New w w') := by
 have H0 := H
 obtain ⟨bi, ig, cap, r, FpE, L, c, hB, hI, hM, hP, hEn⟩ := H0
 have hmn := m.hn
 have hpos := hI.pos
 have hrE := (hM.foot r).2 (.inl rfl)
 have hF := Only.refl (fun _ => False) w
 refine ZeD 71 Try.func71 ?_
 refine Zsr ?_
 refine Znb (cs := msgE.arr m) fun b1 w2 hN3 B4 hb5 => ?_
 refine Zna (z := zv5) (cs := #[.slice none 0 0]) (by kernel_rfl) fun b6 w7 hN8 B9 hb10 => ?_
 replace H := H.new hN3
 have ap_Fp_b6 := H.apart hb10
 replace hF := hF.trNew hN3
 have g_b6 := hF.sz hb10
 refine Zna (z := .int .i64 0) (cs := #[.int .i64 0]) (by kernel_rfl) fun b11 w12 hN13 B14 hb15 => ?_
 replace H := H.new hN8
 have ap_Fp_b11 := H.apart hb15
 have ne_b6_b11 := nelt B9.lt hb15
 replace hF := hF.trNew hN8
 have g_b11 := hF.sz hb15
 refine Znq ?_
 refine Zbl ?_
 refine Zsm ?_
 replace hB := ((hB.new hN3).new hN8).new hN13
 refine Zk cf72 (hnone_c hB) ?_
 rintro v w9 ⟨rfl, hw9⟩
 obtain rfl := hw9.symm
 refine Zan ?_
 refine Zcf ?_
 refine Zsr ?_
 replace B4 := (B4.new hN8).new hN13
 refine ZE msgE ag35 (B4.rangeE msgE) ?_
 refine Zk cf48 (chk_c m _) ?_
 rintro v w18 ⟨rfl, hN19⟩
 refine Zv (.bool false) (fun _ fr => x_neq rfl (fr.ev rfl) rfl (decide_eq_false hc)) ?_
 refine Zm ?_
 refine Zf fo35_2 ?_
 replace B4 := B4.new hN19
 refine Zd (v := .int .i64 m.dst) pl3 (B4.cell 2 rfl) ?_
 refine Zv (.bool true) (fun _ fr => x_neq rfl (fr.ev rfl) rfl (decide_eq_true hx)) ?_
 refine Zpf ?_
 refine Zan ?_
 refine Zct ?_
 refine Zsr ?_
 replace B9 := (B9.new hN13).new hN19
 refine Zs1 (cs' := #[.slice none 0 0]) sz29 B9 (show 0 < 1 by decide) rfl fun w20 hO21 B9 => ?_
 replace B14 := (B14.new hN19).only hO21 ne_b6_b11.symm
 refine Zs1 (cs' := #[.int .i64 2]) sz26 B14 (show 0 < 1 by decide) rfl fun w22 hO23 B14 => ?_
 refine Znn ?_
 refine Zrt ?_
 refine Zr21 ?_
 intro a fr
 replace B9 := B9.only hO23 ne_b6_b11
 refine fx_retD0 fr [.cell 4 29, .cell 5 26] [.slice none 0 0, .int .i64 2] rfl ⟨⟨_, rfl, x_loadV1 pl29 (B9.cell 0 rfl)⟩, ⟨_, rfl, x_loadV1 pl26 (B14.cell 0 rfl)⟩, trivial⟩ rfl ?_
 replace H := (((H.new hN13).new hN19).only hO21 (ne1P ap_Fp_b6)).only hO23 (ne1P ap_Fp_b11)
 replace hF := (((hF.trNew hN13).trNew hN19).loc hO21 (.inr g_b6)).loc hO23 (.inr g_b11)
 exact ⟨_, rfl, rfl, H, hF⟩
theorem take_r {w : World} {Fp : Nat → Prop} {b : Nat} {h : HD} (H : HomeAt w Fp b h) (m : Msg) (hc : ¬ chk m ≠ 0) (hx : ¬ m.dst ≠ 4) (hr : ((h.bs.length / 16 : Nat) : Int) ≤ m.line) : Calls Try.prog 71 #[.pointer (some ⟨b, 0, none⟩), .agg (msgE.arr m)] w (Ret fun v w' => v = .tuple #[.slice none 0 0, .int .i64 4] ∧ HomeAt w' Fp b h ∧ New w w') := by
 have H0 := H
 obtain ⟨bi, ig, cap, r, FpE, L, c, hB, hI, hM, hP, hEn⟩ := H0
 have hmn := m.hn
 have hpos := hI.pos
 have hrE := (hM.foot r).2 (.inl rfl)
 have hF := Only.refl (fun _ => False) w
 refine ZeD 71 Try.func71 ?_
 refine Zsr ?_
 refine Znb (cs := msgE.arr m) fun b1 w2 hN3 B4 hb5 => ?_
 refine Zna (z := zv5) (cs := #[.slice none 0 0]) (by kernel_rfl) fun b6 w7 hN8 B9 hb10 => ?_
 replace H := H.new hN3
 have ap_Fp_b6 := H.apart hb10
 replace hF := hF.trNew hN3
 have g_b6 := hF.sz hb10
 refine Zna (z := .int .i64 0) (cs := #[.int .i64 0]) (by kernel_rfl) fun b11 w12 hN13 B14 hb15 => ?_
 replace H := H.new hN8
 have ap_Fp_b11 := H.apart hb15
 have ne_b6_b11 := nelt B9.lt hb15
 replace hF := hF.trNew hN8
 have g_b11 := hF.sz hb15
 refine Znq ?_
 refine Zbl ?_
 refine Zsm ?_
 replace hB := ((hB.new hN3).new hN8).new hN13
 refine Zk cf72 (hnone_c hB) ?_
 rintro v w9 ⟨rfl, hw9⟩
 obtain rfl := hw9.symm
 refine Zan ?_
 refine Zcf ?_
 refine Zsr ?_
 replace B4 := (B4.new hN8).new hN13
 refine ZE msgE ag35 (B4.rangeE msgE) ?_
 refine Zk cf48 (chk_c m _) ?_
 rintro v w18 ⟨rfl, hN19⟩
 refine Zv (.bool false) (fun _ fr => x_neq rfl (fr.ev rfl) rfl (decide_eq_false hc)) ?_
 refine Zm ?_
 refine Zf fo35_2 ?_
 replace B4 := B4.new hN19
 refine Zd (v := .int .i64 m.dst) pl3 (B4.cell 2 rfl) ?_
 refine Zv (.bool false) (fun _ fr => x_neq rfl (fr.ev rfl) rfl (decide_eq_false hx)) ?_
 refine Zpf ?_
 refine Zan ?_
 refine Zcf ?_
 refine Zsq ?_
 refine Zhd (n := 7) (fun w => Blk w b1 35 (msgE.arr m) ∧ True) ?_
 intro w20 hN21
 replace B4 := B4.new hN21
 have hS9 := And.intro B4 trivial
 refine Zhf 0 fo35_3 hS9 ?_
 refine Zhl (v := .int .u32 m.line) 1 pl32 hS9 (fun _ ⟨B4, _⟩ => (B4.cell 3 rfl)) ?_
 refine Zht 2 rfl _ hS9 (fun _ fr _ _ => x_convert Try.underlying32 Try.underlying2 rfl (fr.ev rfl) (i64w (r := m.line) rfl (by omega))) ?_
 refine Zhm 3 hS9 ?_
 refine Zh1 4 ?_
 replace hI := ((((hI.new hN3).new hN8).new hN13).new hN19).new hN21
 replace hB := (hB.new hN19).new hN21
 refine Zk cf85 (lines_r hB hI) ?_
 rintro v w9 ⟨rfl, hw9⟩
 obtain rfl := hw9.symm
 refine Zhb ⟨B4, trivial⟩ ?_
 have hS9 := And.intro B4 trivial
 refine Zht 5 rfl (.bool true) hS9 (fun _ fr _ _ => x_geq rfl (fr.ev rfl) (fr.ev rfl) (decide_eq_true hr)) ?_
 refine Zha 6 hS9 ?_
 refine Zhn ?_
 refine Znx ?_
 refine Zct ?_
 refine Zsr ?_
 replace B9 := ((B9.new hN13).new hN19).new hN21
 refine Zs1 (cs' := #[.slice none 0 0]) sz29 B9 (show 0 < 1 by decide) rfl fun w24 hO25 B9 => ?_
 replace B14 := ((B14.new hN19).new hN21).only hO25 ne_b6_b11.symm
 refine Zs1 (cs' := #[.int .i64 4]) sz26 B14 (show 0 < 1 by decide) rfl fun w26 hO27 B14 => ?_
 refine Znn ?_
 refine Zrt ?_
 refine Zr21 ?_
 intro a fr
 replace B9 := B9.only hO27 ne_b6_b11
 refine fx_retD0 fr [.cell 4 29, .cell 5 26] [.slice none 0 0, .int .i64 4] rfl ⟨⟨_, rfl, x_loadV1 pl29 (B9.cell 0 rfl)⟩, ⟨_, rfl, x_loadV1 pl26 (B14.cell 0 rfl)⟩, trivial⟩ rfl ?_
 replace H := ((((H.new hN13).new hN19).new hN21).only hO25 (ne1P ap_Fp_b6)).only hO27 (ne1P ap_Fp_b11)
 replace hF := ((((hF.trNew hN13).trNew hN19).trNew hN21).loc hO25 (.inr g_b6)).loc hO27 (.inr g_b11)
 exact ⟨_, rfl, rfl, H, hF⟩
def htakeEs (b : Nat) : Array MapEntry := #[⟨.int .i64 1, .func (.func 88) #[.pointer (some ⟨b, 0, none⟩)] #[], 0⟩, ⟨.int .i64 2, .func (.func 88) #[.pointer (some ⟨b, 0, none⟩)] #[], 1⟩, ⟨.int .i64 3, .func (.func 88) #[.pointer (some ⟨b, 0, none⟩)] #[], 2⟩, ⟨.int .i64 11, .func (.func 89) #[.pointer (some ⟨b, 0, none⟩)] #[], 3⟩, ⟨.int .i64 12, .func (.func 90) #[.pointer (some ⟨b, 0, none⟩)] #[], 4⟩, ⟨.int .i64 13, .func (.func 91) #[.pointer (some ⟨b, 0, none⟩)] #[], 5⟩]
theorem htake_ret {w : World} {Fp : Nat → Prop} {b : Nat} {h : HD} (H : HomeAt w Fp b h) (m : Msg) (hc : ¬ chk m ≠ 0) (hx : ¬ m.dst ≠ 4) (hr : ¬ ((h.bs.length / 16 : Nat) : Int) ≤ m.line) (hql : (entOf h.E m.line.toNat).q.length ≤ 100000) {f : Nat} {fn : Func} (hfn : Try.prog.funcs[f]? = some fn) (hnm : (fn.name == "runtime.NumGoroutine") = false) (hbd : fn.body.isNone = false) (hes : ∀ b, (Instr.findNow (.int .i64) (.int .i64 m.kind) (htakeEs b).toList 0).map (fun q => (match q with | some (_, u) => u | none => .nilFunc, q.isSome)) = some (.func (.func f) #[.pointer (some ⟨b, 0, none⟩)] #[], true)) {x : Ent × List UInt8 × List Msg} (hxl : x.2.1.length = h.bs.length) (hcall : ∀ w1 bw be bi ig cap r Q qc, WorkR w1 bw be b bi ig cap r m.line (entOf h.E m.line.toNat) Q qc none 0 [] h.bs → Own msgE w1 Q qc (entOf h.E m.line.toNat).q → Calls Try.prog f #[.pointer (some ⟨bw, 0, none⟩), .agg (msgE.arr m)] w1 (Ret fun v w' => v = .tuple #[] ∧ HRet w1 w' bw be b bi ig cap r m.line Q none [] x))  : Calls Try.prog 71 #[.pointer (some ⟨b, 0, none⟩), .agg (msgE.arr m)] w (Ret fun v w' => TakeH w Fp b (⟨x.2.1, h.E.set m.line.toNat x.1⟩, x.2.2, 0) v w') := by
 obtain ⟨bi, ig, cap, r, FpE, L, c, hB, hI, hM, hP, hEn⟩ := H
 have hmn := m.hn
 have hpos := hI.pos
 have ne_b_bi := hP.ne_b_bi
 have ne_b_ig := hP.ne_b_ig
 have ne_bi_ig : NE bi ig := hI.ne
 have ap_FpE_b := hP.fb
 have ap_FpE_bi := hP.fbi
 have ap_FpE_ig := hP.fig
 have hrE := (hM.foot r).2 (.inl rfl)
 have hF := Only.refl (Fp) w
 refine ZeD 71 Try.func71 ?_
 refine Zsr ?_
 refine Znb (cs := msgE.arr m) fun b1 w2 hN3 B4 hb5 => ?_
 have ne_ig_b1 := nelt hI.lt.2 hb5
 refine Zna (z := zv5) (cs := #[.slice none 0 0]) (by kernel_rfl) fun b6 w7 hN8 B9 hb10 => ?_
 replace hB := hB.new hN3
 have ne_b_b6 := nelt hB.lt hb10
 replace hI := hI.new hN3
 have ne_bi_b6 := nelt hI.lt.1 hb10
 have ne_ig_b6 := nelt hI.lt.2 hb10
 replace hM := hM.new hN3
 have ap_FpE_b6 := hM.apart hb10
 replace hF := hF.trNew hN3
 have g_b6 := hF.sz hb10
 refine Zna (z := .int .i64 0) (cs := #[.int .i64 0]) (by kernel_rfl) fun b11 w12 hN13 B14 hb15 => ?_
 replace hB := hB.new hN8
 have ne_b_b11 := nelt hB.lt hb15
 replace hI := hI.new hN8
 have ne_bi_b11 := nelt hI.lt.1 hb15
 have ne_ig_b11 := nelt hI.lt.2 hb15
 replace hM := hM.new hN8
 have ap_FpE_b11 := hM.apart hb15
 have ne_b6_b11 := nelt B9.lt hb15
 replace hF := hF.trNew hN8
 have g_b11 := hF.sz hb15
 refine Znq ?_
 refine Zbl ?_
 refine Zsm ?_
 replace hB := hB.new hN13
 refine Zk cf72 (hnone_c hB) ?_
 rintro v w9 ⟨rfl, hw9⟩
 obtain rfl := hw9.symm
 refine Zan ?_
 refine Zcf ?_
 refine Zsr ?_
 replace B4 := (B4.new hN8).new hN13
 refine ZE msgE ag35 (B4.rangeE msgE) ?_
 refine Zk cf48 (chk_c m _) ?_
 rintro v w18 ⟨rfl, hN19⟩
 refine Zv (.bool false) (fun _ fr => x_neq rfl (fr.ev rfl) rfl (decide_eq_false hc)) ?_
 refine Zm ?_
 refine Zf fo35_2 ?_
 replace B4 := B4.new hN19
 refine Zd (v := .int .i64 m.dst) pl3 (B4.cell 2 rfl) ?_
 refine Zv (.bool false) (fun _ fr => x_neq rfl (fr.ev rfl) rfl (decide_eq_false hx)) ?_
 refine Zpf ?_
 refine Zan ?_
 refine Zcf ?_
 refine Zsq ?_
 refine Zhd (n := 7) (fun w => Blk w b1 35 (msgE.arr m) ∧ True) ?_
 intro w20 hN21
 replace B4 := B4.new hN21
 have hS9 := And.intro B4 trivial
 refine Zhf 0 fo35_3 hS9 ?_
 refine Zhl (v := .int .u32 m.line) 1 pl32 hS9 (fun _ ⟨B4, _⟩ => (B4.cell 3 rfl)) ?_
 refine Zht 2 rfl _ hS9 (fun _ fr _ _ => x_convert Try.underlying32 Try.underlying2 rfl (fr.ev rfl) (i64w (r := m.line) rfl (by omega))) ?_
 refine Zhm 3 hS9 ?_
 refine Zh1 4 ?_
 replace hI := ((hI.new hN13).new hN19).new hN21
 replace hB := (hB.new hN19).new hN21
 refine Zk cf85 (lines_r hB hI) ?_
 rintro v w9 ⟨rfl, hw9⟩
 obtain rfl := hw9.symm
 refine Zhb ⟨B4, trivial⟩ ?_
 have hS9 := And.intro B4 trivial
 refine Zht 5 rfl (.bool false) hS9 (fun _ fr _ _ => x_geq rfl (fr.ev rfl) (fr.ev rfl) (decide_eq_false hr)) ?_
 refine Zha 6 hS9 ?_
 refine Zhn ?_
 refine Znx ?_
 refine Zcf ?_
 refine Zsk ?_
 refine Zbn ?_
 refine Zsr ?_
 refine Zv _ (fun _ fr => x_makeFunc (vs := [.pointer (some ⟨b6, 0, none⟩), .pointer (some ⟨b11, 0, none⟩)]) rfl ⟨(fr.ev rfl), (fr.ev rfl), trivial⟩) ?_
 intro a fr
 refine fx_defer fr rfl rfl (x_deferv (vs := []) rfl (fr.ev rfl) trivial) ?_
 clear fr a
 refine Znn ?_
 refine Zsm ?_
 refine Zf fo35_3 ?_
 refine Zd (v := .int .u32 m.line) pl32 (B4.cell 3 rfl) ?_
 replace hM := ((hM.new hN13).new hN19).new hN21
 refine Zk (args := #[.pointer (some ⟨b, 0, none⟩), .int .u32 m.line]) cf87 (hof_c hB hM m.line (by omega) (by omega)) ?_
 rintro v w28 ⟨Q24, qc25, rfl, OQ26, hA27, hN29⟩
 have ap_Q24_b : Apart Q24 b := new_apart hA27 hB.lt
 have ap_Q24_bi : Apart Q24 bi := new_apart hA27 hI.lt.1
 have ap_Q24_ig : Apart Q24 ig := new_apart hA27 hI.lt.2
 have ap2_FpE_Q24 : ∀ k, FpE k → inA Q24 k → False := symP (new_apart2P hA27 fun _ hg => hM.lt hg)
 have ap_Q24_b1 : Apart Q24 b1 := new_apart hA27 B4.lt
 replace B9 := ((B9.new hN13).new hN19).new hN21
 have ap_Q24_b6 : Apart Q24 b6 := new_apart hA27 B9.lt
 replace B14 := (B14.new hN19).new hN21
 have ap_Q24_b11 : Apart Q24 b11 := new_apart hA27 B14.lt
 replace hF := ((hF.trNew hN13).trNew hN19).trNew hN21
 have gA_Q24 := gA_new hF hA27
 have gN_Q24 := fun g (hg : inA Q24 g) => Nat.le_trans hF.size (hA27 g hg)
 refine Zna (z := zv4) (cs := #[.int .i64 0, .bool false, .bool false, .bool false, .bool false, .bool false, .int .i64 0, .int .i64 0, .int .i64 0, .bool false, .slice none 0 0]) (by kernel_rfl) fun b30 w31 hN32 B33 hb34 => ?_
 replace hB := hB.new hN29
 have ne_b_b30 := nelt hB.lt hb34
 replace hI := hI.new hN29
 have ne_bi_b30 := nelt hI.lt.1 hb34
 have ne_ig_b30 := nelt hI.lt.2 hb34
 replace hM := hM.new hN29
 have ap_FpE_b30 := hM.apart hb34
 replace B4 := B4.new hN29
 have ne_b1_b30 := nelt B4.lt hb34
 replace B9 := B9.new hN29
 have ne_b6_b30 := nelt B9.lt hb34
 replace B14 := B14.new hN29
 have ne_b11_b30 := nelt B14.lt hb34
 have ap_Q24_b30 := OQ26.apart hb34
 replace hF := hF.trNew hN29
 have g_b30 := hF.sz hb34
 refine ZsS sz147 (ent_all _ _ _ _) B33 rfl rfl fun w35 hO36 B33 => ?_
 refine Znn ?_
 refine Zsm ?_
 refine Zf fo35_3 ?_
 replace B4 := (B4.new hN32).only hO36 ne_b1_b30
 refine Zd (v := .int .u32 m.line) pl32 (B4.cell 3 rfl) ?_
 refine Zv (.agg (#[.slice none 0 0, .pointer (some ⟨b30, 0, none⟩), .pointer (some ⟨b, 0, none⟩), .int .u32 m.line])) (fun a fr => x_build (cells := #[.slice none 0 0, .pointer (some ⟨b30, 0, none⟩), .pointer (some ⟨b, 0, none⟩), .int .u32 m.line]) rfl (by simp only [List.map_toArray, List.map_cons, List.map_nil, show a.eval (.tmp 6) = .pointer (some ⟨b30, 0, none⟩) from fr.ev rfl, show a.eval (.tmp 32) = .pointer (some ⟨b, 0, none⟩) from fr.ev rfl, show a.eval (.tmp 34) = .int .u32 m.line from fr.ev rfl]; kernel_rfl)) ?_
 refine Znb (cs := #[.slice none 0 0, .pointer (some ⟨b30, 0, none⟩), .pointer (some ⟨b, 0, none⟩), .int .u32 m.line]) fun b37 w38 hN39 B40 hb41 => ?_
 replace hB := (hB.new hN32).only hO36 ne_b_b30
 have ne_b_b37 := nelt hB.lt hb41
 replace hI := (hI.new hN32).only hO36 ne_bi_b30 ne_ig_b30
 have ne_bi_b37 := nelt hI.lt.1 hb41
 have ne_ig_b37 := nelt hI.lt.2 hb41
 replace hM := (hM.new hN32).only hO36 (ne1P ap_FpE_b30)
 have ap_FpE_b37 := hM.apart hb41
 have ne_b1_b37 := nelt B4.lt hb41
 replace B9 := (B9.new hN32).only hO36 ne_b6_b30
 have ne_b6_b37 := nelt B9.lt hb41
 replace B14 := (B14.new hN32).only hO36 ne_b11_b30
 have ne_b11_b37 := nelt B14.lt hb41
 replace OQ26 := (OQ26.new hN32).only hO36 (Apart.ne1 ap_Q24_b30)
 have ap_Q24_b37 := OQ26.apart hb41
 have ne_b30_b37 := nelt B33.lt hb41
 replace hF := (hF.trNew hN32).loc hO36 (.inr g_b30)
 have g_b37 := hF.sz hb41
 refine Zan ?_
 refine Zsr ?_
 intro a fr
 refine fx_makeMap fr rfl rfl rfl (by first | decide | simp) ?_
 clear fr a
 intro r42 w43 hN44 M45 hb46
 replace hB := hB.new hN39
 have ne_b_r42 := nelt hB.lt hb46
 replace hI := hI.new hN39
 have ne_bi_r42 := nelt hI.lt.1 hb46
 have ne_ig_r42 := nelt hI.lt.2 hb46
 replace hM := hM.new hN39
 have ap_FpE_r42 := hM.apart hb46
 replace B4 := B4.new hN39
 have ne_b1_r42 := nelt B4.lt hb46
 replace B9 := B9.new hN39
 have ne_b6_r42 := nelt B9.lt hb46
 replace B14 := B14.new hN39
 have ne_b11_r42 := nelt B14.lt hb46
 replace OQ26 := OQ26.new hN39
 have ap_Q24_r42 := OQ26.apart hb46
 replace B33 := B33.new hN39
 have ne_b30_r42 := nelt B33.lt hb46
 have ne_b37_r42 := nelt B40.lt hb46
 replace hF := hF.trNew hN39
 have g_r42 := hF.sz hb46
 refine Zm ?_
 refine Zv _ (fun _ fr => x_makeBound rfl (fr.ev rfl)) ?_
 intro a fr
 refine fx_insert (es' := #[⟨.int .i64 1, .func (.func 88) #[.pointer (some ⟨b37, 0, none⟩)] #[], 0⟩]) Try.underlying178 Try.underlying33 rfl rfl rfl (fr.ev rfl) rfl (fr.ev rfl) M45 rfl rfl fun w47 hO48 hBq => ?_
 revert a
 replace M45 := hBq
 clear hBq
 refine Zm ?_
 refine Zv _ (fun _ fr => x_makeBound rfl (fr.ev rfl)) ?_
 intro a fr
 refine fx_insert (es' := #[⟨.int .i64 1, .func (.func 88) #[.pointer (some ⟨b37, 0, none⟩)] #[], 0⟩, ⟨.int .i64 2, .func (.func 88) #[.pointer (some ⟨b37, 0, none⟩)] #[], 1⟩]) Try.underlying178 Try.underlying33 rfl rfl rfl (fr.ev rfl) rfl (fr.ev rfl) M45 rfl rfl fun w49 hO50 hBq => ?_
 revert a
 replace M45 := hBq
 clear hBq
 refine Zm ?_
 refine Zv _ (fun _ fr => x_makeBound rfl (fr.ev rfl)) ?_
 intro a fr
 refine fx_insert (es' := #[⟨.int .i64 1, .func (.func 88) #[.pointer (some ⟨b37, 0, none⟩)] #[], 0⟩, ⟨.int .i64 2, .func (.func 88) #[.pointer (some ⟨b37, 0, none⟩)] #[], 1⟩, ⟨.int .i64 3, .func (.func 88) #[.pointer (some ⟨b37, 0, none⟩)] #[], 2⟩]) Try.underlying178 Try.underlying33 rfl rfl rfl (fr.ev rfl) rfl (fr.ev rfl) M45 rfl rfl fun w51 hO52 hBq => ?_
 revert a
 replace M45 := hBq
 clear hBq
 refine Zm ?_
 refine Zv _ (fun _ fr => x_makeBound rfl (fr.ev rfl)) ?_
 intro a fr
 refine fx_insert (es' := #[⟨.int .i64 1, .func (.func 88) #[.pointer (some ⟨b37, 0, none⟩)] #[], 0⟩, ⟨.int .i64 2, .func (.func 88) #[.pointer (some ⟨b37, 0, none⟩)] #[], 1⟩, ⟨.int .i64 3, .func (.func 88) #[.pointer (some ⟨b37, 0, none⟩)] #[], 2⟩, ⟨.int .i64 11, .func (.func 89) #[.pointer (some ⟨b37, 0, none⟩)] #[], 3⟩]) Try.underlying178 Try.underlying33 rfl rfl rfl (fr.ev rfl) rfl (fr.ev rfl) M45 rfl rfl fun w53 hO54 hBq => ?_
 revert a
 replace M45 := hBq
 clear hBq
 refine Zm ?_
 refine Zv _ (fun _ fr => x_makeBound rfl (fr.ev rfl)) ?_
 intro a fr
 refine fx_insert (es' := #[⟨.int .i64 1, .func (.func 88) #[.pointer (some ⟨b37, 0, none⟩)] #[], 0⟩, ⟨.int .i64 2, .func (.func 88) #[.pointer (some ⟨b37, 0, none⟩)] #[], 1⟩, ⟨.int .i64 3, .func (.func 88) #[.pointer (some ⟨b37, 0, none⟩)] #[], 2⟩, ⟨.int .i64 11, .func (.func 89) #[.pointer (some ⟨b37, 0, none⟩)] #[], 3⟩, ⟨.int .i64 12, .func (.func 90) #[.pointer (some ⟨b37, 0, none⟩)] #[], 4⟩]) Try.underlying178 Try.underlying33 rfl rfl rfl (fr.ev rfl) rfl (fr.ev rfl) M45 rfl rfl fun w55 hO56 hBq => ?_
 revert a
 replace M45 := hBq
 clear hBq
 refine Zm ?_
 refine Zv _ (fun _ fr => x_makeBound rfl (fr.ev rfl)) ?_
 intro a fr
 refine fx_insert (es' := #[⟨.int .i64 1, .func (.func 88) #[.pointer (some ⟨b37, 0, none⟩)] #[], 0⟩, ⟨.int .i64 2, .func (.func 88) #[.pointer (some ⟨b37, 0, none⟩)] #[], 1⟩, ⟨.int .i64 3, .func (.func 88) #[.pointer (some ⟨b37, 0, none⟩)] #[], 2⟩, ⟨.int .i64 11, .func (.func 89) #[.pointer (some ⟨b37, 0, none⟩)] #[], 3⟩, ⟨.int .i64 12, .func (.func 90) #[.pointer (some ⟨b37, 0, none⟩)] #[], 4⟩, ⟨.int .i64 13, .func (.func 91) #[.pointer (some ⟨b37, 0, none⟩)] #[], 5⟩]) Try.underlying178 Try.underlying33 rfl rfl rfl (fr.ev rfl) rfl (fr.ev rfl) M45 rfl rfl fun w57 hO58 hBq => ?_
 revert a
 replace M45 := hBq
 clear hBq
 refine Zm ?_
 refine Zf fo35_0 ?_
 replace B4 := ((((((B4.new hN44).only hO48 ne_b1_r42).only hO50 ne_b1_r42).only hO52 ne_b1_r42).only hO54 ne_b1_r42).only hO56 ne_b1_r42).only hO58 ne_b1_r42
 refine Zd (v := .int .i64 m.kind) pl33 (B4.cell 0 rfl) ?_
 refine Zv (.func (.func f) #[.pointer (some ⟨b37, 0, none⟩)] #[]) (fun _ fr => x_lookup (k := .i64) (ok := false) (v := .func (.func f) #[.pointer (some ⟨b37, 0, none⟩)] #[]) (b := true) Try.underlying178 Try.underlying33 rfl (fr.ev rfl) (fr.ev rfl) M45 (z := .nilFunc) (by kernel_rfl) (hes b37)) ?_
 refine ZE msgE ag35 (B4.rangeE msgE) ?_
 replace hB := ((((((hB.new hN44).only hO48 ne_b_r42).only hO50 ne_b_r42).only hO52 ne_b_r42).only hO54 ne_b_r42).only hO56 ne_b_r42).only hO58 ne_b_r42
 replace hI := ((((((hI.new hN44).only hO48 ne_bi_r42 ne_ig_r42).only hO50 ne_bi_r42 ne_ig_r42).only hO52 ne_bi_r42 ne_ig_r42).only hO54 ne_bi_r42 ne_ig_r42).only hO56 ne_bi_r42 ne_ig_r42).only hO58 ne_bi_r42 ne_ig_r42
 replace OQ26 := ((((((OQ26.new hN44).only hO48 (Apart.ne1 ap_Q24_r42)).only hO50 (Apart.ne1 ap_Q24_r42)).only hO52 (Apart.ne1 ap_Q24_r42)).only hO54 (Apart.ne1 ap_Q24_r42)).only hO56 (Apart.ne1 ap_Q24_r42)).only hO58 (Apart.ne1 ap_Q24_r42)
 replace B33 := ((((((B33.new hN44).only hO48 ne_b30_r42).only hO50 ne_b30_r42).only hO52 ne_b30_r42).only hO54 ne_b30_r42).only hO56 ne_b30_r42).only hO58 ne_b30_r42
 replace B40 := ((((((B40.new hN44).only hO48 ne_b37_r42).only hO50 ne_b37_r42).only hO52 ne_b37_r42).only hO54 ne_b37_r42).only hO56 ne_b37_r42).only hO58 ne_b37_r42
 refine Zkx (fun _ fr => x_callb (all := #[.pointer (some ⟨b37, 0, none⟩), .agg (msgE.arr m)]) (vs := [.agg (msgE.arr m)]) rfl (fr.ev rfl) ⟨(fr.ev rfl), trivial⟩ rfl hfn hnm hbd) (hcall _ b37 b30 bi ig cap r Q24 qc25 ⟨B40, B33, hB, hI, OQ26.view, Own.nil, ⟨(by first | exact ne_b37_b30 | exact ne_b30_b37.symm), (by first | exact ne_b37_b | exact ne_b_b37.symm), (by first | exact ne_b37_bi | exact ne_bi_b37.symm), (by first | exact ne_b37_ig | exact ne_ig_b37.symm), (by first | exact ne_b30_b | exact ne_b_b30.symm), (by first | exact ne_b30_bi | exact ne_bi_b30.symm), (by first | exact ne_b30_ig | exact ne_ig_b30.symm), (by first | exact ne_b_bi | exact ne_bi_b.symm), (by first | exact ne_b_ig | exact ne_ig_b.symm), (by first | exact ne_bi_ig | exact ne_ig_bi.symm), ap_Q24_b37, ap_Q24_b30, ap_Q24_b, ap_Q24_bi, ap_Q24_ig, (apart_none b37), (apart_none b30), (apart_none b), (apart_none bi), (apart_none ig), (fun k _ h => apart_none k h)⟩⟩ OQ26) ?_
 rintro v w67 ⟨rfl, Q59, qc60, A61, ac62, R63, mvA64, mvQ65, hN68⟩
 replace hM := ((((((hM.new hN44).only hO48 (ne1P ap_FpE_r42)).only hO50 (ne1P ap_FpE_r42)).only hO52 (ne1P ap_FpE_r42)).only hO54 (ne1P ap_FpE_r42)).only hO56 (ne1P ap_FpE_r42)).only hO58 (ne1P ap_FpE_r42)
 have ap2_FpE_A61 : ∀ k, FpE k → inA A61 k → False := fun k h1 hk => (mvA64 k hk).elim (fun h => h.elim (apart_none k) (ap2_FpE_Q24 k h1)) (fun h => by have := hM.lt h1; omega)
 have ap2_FpE_Q59 : ∀ k, FpE k → inA Q59 k → False := fun k h1 hk => (mvQ65 k hk).elim (fun h => h.elim (apart_none k) (ap2_FpE_Q24 k h1)) (fun h => by have := hM.lt h1; omega)
 replace B9 := ((((((B9.new hN44).only hO48 ne_b6_r42).only hO50 ne_b6_r42).only hO52 ne_b6_r42).only hO54 ne_b6_r42).only hO56 ne_b6_r42).only hO58 ne_b6_r42
 have ap_A61_b6 : Apart A61 b6 := fun hk => (mvA64 b6 hk).elim (fun h => h.elim (apart_none b6) ap_Q24_b6) (fun h => by have := B9.lt; omega)
 have ap_Q59_b6 : Apart Q59 b6 := fun hk => (mvQ65 b6 hk).elim (fun h => h.elim (apart_none b6) ap_Q24_b6) (fun h => by have := B9.lt; omega)
 replace B14 := ((((((B14.new hN44).only hO48 ne_b11_r42).only hO50 ne_b11_r42).only hO52 ne_b11_r42).only hO54 ne_b11_r42).only hO56 ne_b11_r42).only hO58 ne_b11_r42
 have ap_A61_b11 : Apart A61 b11 := fun hk => (mvA64 b11 hk).elim (fun h => h.elim (apart_none b11) ap_Q24_b11) (fun h => by have := B14.lt; omega)
 have ap_Q59_b11 : Apart Q59 b11 := fun hk => (mvQ65 b11 hk).elim (fun h => h.elim (apart_none b11) ap_Q24_b11) (fun h => by have := B14.lt; omega)
 replace hF := ((((((hF.trNew hN44).loc hO48 (.inr g_r42)).loc hO50 (.inr g_r42)).loc hO52 (.inr g_r42)).loc hO54 (.inr g_r42)).loc hO56 (.inr g_r42)).loc hO58 (.inr g_r42)
 have gN_A61 : ∀ g, inA A61 g → w.heap.size ≤ g := fun g hg => (mvA64 g hg).elim (fun h => h.elim (fun h => absurd h (apart_none g)) (gN_Q24 g)) (fun h => Nat.le_trans hF.size h)
 have gN_Q59 : ∀ g, inA Q59 g → w.heap.size ≤ g := fun g hg => (mvQ65 g hg).elim (fun h => h.elim (fun h => absurd h (apart_none g)) (gN_Q24 g)) (fun h => Nat.le_trans hF.size h)
 clear B40 B33 OQ26 hB hI
 obtain ⟨hW, hE, hB, hI, hQ, O66, hS⟩ := R63
 simp only [List.nil_append] at hW O66
 have ap_A61_b30 := hS.ap_A_be
 have ap_A61_b := hS.ap_A_bh
 have ap_Q59_b := hS.ap_Q_bh
 have ap_A61_bi := hS.ap_A_bi
 have ap_Q59_bi := hS.ap_Q_bi
 have ap_A61_ig := hS.ap_A_ig
 have ap_Q59_ig := hS.ap_Q_ig
 have ap2_Q59_A61 := hS.ap2_Q_A
 refine Znq ?_
 refine ZhT (n := 10) 10 (fun w => Blk w b1 35 (msgE.arr m) ∧ Blk w b37 176 #[.slice A61 x.2.2.length ac62, .pointer (some ⟨b30, 0, none⟩), .pointer (some ⟨b, 0, none⟩), .int .u32 m.line] ∧ Blk w b 140 #[.pointer (some ⟨bi, 0, none⟩), .map (some r)] ∧ True) ?_
 intro w69 hN70
 replace B4 := (B4.only hN68 (fun h => h.elim ne_b1_b37 (fun h => h.elim ne_b1_b30 (fun h => h.elim ne_ig_b1.symm (fun h => h.elim (apart_none b1) ap_Q24_b1))))).new hN70
 replace hW := hW.new hN70
 replace hB := hB.new hN70
 have hS9 := And.intro B4 (And.intro hW (And.intro hB trivial))
 refine Zhm 0 hS9 ?_
 refine Zhc 1 hS9 ?_
 refine Zhf 2 fo140_1 hS9 ?_
 refine Zhl (v := .map (some r)) 3 pl138 hS9 (fun _ ⟨_, _, hB, _⟩ => (hB.cell 1 rfl)) ?_
 refine Zhf 4 fo35_3 hS9 ?_
 refine Zhl (v := .int .u32 m.line) 5 pl32 hS9 (fun _ ⟨B4, _⟩ => (B4.cell 3 rfl)) ?_
 refine Zhm 6 hS9 ?_
 refine Zhc 7 hS9 ?_
 refine Zhf 8 fo176_1 hS9 ?_
 refine Zhl 9 pl144 hS9 (fun _ ⟨_, hW, _⟩ => (hW.cell 1 rfl)) ?_
 refine Zhn ?_
 refine Ztl ?_
 have hner : ¬ b30 = r := fun e => ap_FpE_b30 (e ▸ hrE)
 intro a fr
 replace hM := (hM.only hN68 (fun g hg => (fun h => h.elim ((ne1P ap_FpE_b37) g hg) (fun h => h.elim ((ne1P ap_FpE_b30) g hg) (fun h => h.elim ((ne1P ap_FpE_ig) g hg) (fun h => h.elim ((fun g h1 h2 => (fun k _ h => apart_none k h) g h1 h2) g hg) ((fun g h1 h2 => ap2_FpE_Q24 g h1 h2) g hg))))))).new hN70
 replace hE := hE.new hN70
 replace hQ := hQ.new hN70
 refine fx_entPut (n := m.line.toNat) rfl rfl rfl (fr.ev rfl) ((fr.ev rfl).trans (int_nat _ _ (by omega))) (fr.ev rfl) hM (by omega) hE hQ hner (fun h => ap2_FpE_Q59 r hrE h) ?_
 intro w71 L72 c73 FpE74 hO75 hM76 hF277
 revert a
 have ne_b6_r : NE b6 r := fun e => ap_FpE_b6 (e ▸ hrE)
 have ne_b11_r : NE b11 r := fun e => ap_FpE_b11 (e ▸ hrE)
 have ne_b37_r : NE b37 r := fun e => ap_FpE_b37 (e ▸ hrE)
 have ne_b_r : NE b r := fun e => ap_FpE_b (e ▸ hrE)
 have ne_bi_r : NE bi r := fun e => ap_FpE_bi (e ▸ hrE)
 have ne_ig_r : NE ig r := fun e => ap_FpE_ig (e ▸ hrE)
 have ap_A61_r : Apart A61 r := fun h => ap2_FpE_A61 r hrE h
 have ap_FpE74_b6 : ¬ FpE74 b6 := fun h => (hF277 b6 h).elim ap_FpE_b6 fun h => h.elim (fun e => absurd e (by first | exact ne_b6_b30 | exact ne_b30_b6.symm)) ap_Q59_b6
 have ap_FpE74_b11 : ¬ FpE74 b11 := fun h => (hF277 b11 h).elim ap_FpE_b11 fun h => h.elim (fun e => absurd e (by first | exact ne_b11_b30 | exact ne_b30_b11.symm)) ap_Q59_b11
 clear hM
 refine Znn ?_
 refine Zsm ?_
 refine Zn ?_
 refine Zf fo176_0 ?_
 refine Zf fo174_0 ?_
 replace hW := hW.only hO75 ne_b37_r
 refine Zd (v := .slice A61 x.2.2.length ac62) pl29 (hW.cell 0 rfl) ?_
 replace B9 := ((B9.only hN68 (fun h => h.elim ne_b6_b37 (fun h => h.elim ne_b6_b30 (fun h => h.elim ne_ig_b6.symm (fun h => h.elim (apart_none b6) ap_Q24_b6))))).new hN70).only hO75 ne_b6_r
 refine Zs1 (cs' := #[.slice A61 x.2.2.length ac62]) sz29 B9 (show 0 < 1 by decide) rfl fun w78 hO79 B9 => ?_
 replace B14 := (((B14.only hN68 (fun h => h.elim ne_b11_b37 (fun h => h.elim ne_b11_b30 (fun h => h.elim ne_ig_b11.symm (fun h => h.elim (apart_none b11) ap_Q24_b11))))).new hN70).only hO75 ne_b11_r).only hO79 ne_b6_b11.symm
 refine Zs1 (cs' := #[.int .i64 0]) sz26 B14 (show 0 < 1 by decide) rfl fun w80 hO81 B14 => ?_
 refine Znn ?_
 refine Zrt ?_
 intro a fr
 replace B9 := B9.only hO81 ne_b6_b11
 refine fx_retD1 fr rfl (hcaught_idle b6 b11 _) [.cell 4 29, .cell 5 26] [.slice A61 x.2.2.length ac62, .int .i64 0] rfl ⟨⟨_, rfl, x_loadV1 pl29 (B9.cell 0 rfl)⟩, ⟨_, rfl, x_loadV1 pl26 (B14.cell 0 rfl)⟩, trivial⟩ rfl ?_
 replace hF := ((((hF.locS hN68 (fun i => (fun h => h.elim (fun e => by rw [e]; exact (.inr g_b37)) (fun h => h.elim (fun e => by rw [e]; exact (.inr g_b30)) (fun h => h.elim (fun e => by rw [e]; exact (.inl ((hP.foot ig).2 (.inr (.inr (.inl rfl)))))) (fun h => h.elim (fun h => gA_none i h) (fun h => gA_Q24 i h))))))).trNew hN70).loc hO75 (.inl ((hP.foot r).2 (.inr (.inr (.inr hrE)))))).loc hO79 (.inr g_b6)).loc hO81 (.inr g_b11)
 replace hI := (((hI.new hN70).only hO75 ne_bi_r ne_ig_r).only hO79 ne_bi_b6 ne_ig_b6).only hO81 ne_bi_b11 ne_ig_b11
 replace O66 := (((O66.new hN70).only hO75 (Apart.ne1 ap_A61_r)).only hO79 (Apart.ne1 ap_A61_b6)).only hO81 (Apart.ne1 ap_A61_b11)
 replace hB := ((hB.only hO75 ne_b_r).only hO79 ne_b_b6).only hO81 ne_b_b11
 replace hM76 := (hM76.only hO79 (ne1P ap_FpE74_b6)).only hO81 (ne1P ap_FpE74_b11)
 exact ⟨_, rfl, A61, ac62, (fun k => k = b ∨ k = bi ∨ k = ig ∨ FpE74 k), rfl, O66, gN_A61, ⟨bi, ig, cap, r, FpE74, L72, c73, hB, hI, hM76, ⟨ne_b_bi, ne_b_ig, (fun h => (hF277 _ h).elim ap_FpE_b fun h => h.elim (fun e => absurd e (by first | exact ne_b_b30 | exact ne_b30_b.symm)) ap_Q59_b), (fun h => (hF277 _ h).elim ap_FpE_bi fun h => h.elim (fun e => absurd e (by first | exact ne_bi_b30 | exact ne_b30_bi.symm)) ap_Q59_bi), (fun h => (hF277 _ h).elim ap_FpE_ig fun h => h.elim (fun e => absurd e (by first | exact ne_ig_b30 | exact ne_b30_ig.symm)) ap_Q59_ig), fun _ => Iff.rfl⟩, by rw [List.length_set, hxl]; exact hEn⟩, (fun k hk ha => hk.elim (fun e => ap_A61_b (e ▸ ha)) fun hk => hk.elim (fun e => ap_A61_bi (e ▸ ha)) fun hk => hk.elim (fun e => ap_A61_ig (e ▸ ha)) fun hk => (hF277 k hk).elim (fun h => ap2_FpE_A61 k h ha) fun h => h.elim (fun e => ap_A61_b30 (e ▸ ha)) fun h => ap2_Q59_A61 k h ha), (fun k hk => hk.elim (fun e => .inl ((hP.foot k).2 (.inl e))) fun hk => hk.elim (fun e => .inl ((hP.foot k).2 (.inr (.inl e)))) fun hk => hk.elim (fun e => .inl ((hP.foot k).2 (.inr (.inr (.inl e))))) fun hk => (hF277 k hk).elim (fun h => .inl ((hP.foot k).2 (.inr (.inr (.inr h))))) fun h => .inr (h.elim (fun e => by rw [e]; exact g_b30) (gN_Q59 k))), hF⟩
theorem htake_pan {w : World} {Fp : Nat → Prop} {b : Nat} {h : HD} (H : HomeAt w Fp b h) (m : Msg) (hc : ¬ chk m ≠ 0) (hx : ¬ m.dst ≠ 4) (hr : ¬ ((h.bs.length / 16 : Nat) : Int) ≤ m.line) (hql : (entOf h.E m.line.toNat).q.length ≤ 100000) {f : Nat} {fn : Func} (hfn : Try.prog.funcs[f]? = some fn) (hnm : (fn.name == "runtime.NumGoroutine") = false) (hbd : fn.body.isNone = false) (hes : ∀ b, (Instr.findNow (.int .i64) (.int .i64 m.kind) (htakeEs b).toList 0).map (fun q => (match q with | some (_, u) => u | none => .nilFunc, q.isSome)) = some (.func (.func f) #[.pointer (some ⟨b, 0, none⟩)] #[], true)) (hcall : ∀ w1 bw be bi ig cap r Q qc, WorkR w1 bw be b bi ig cap r m.line (entOf h.E m.line.toNat) Q qc none 0 [] h.bs → Own msgE w1 Q qc (entOf h.E m.line.toNat).q → Calls Try.prog f #[.pointer (some ⟨bw, 0, none⟩), .agg (msgE.arr m)] w1 (Pan fun c w' => c = hstopE 220 ∧ New w1 w'))  : Calls Try.prog 71 #[.pointer (some ⟨b, 0, none⟩), .agg (msgE.arr m)] w (Ret fun v w' => v = .tuple #[.slice none 0 0, .int .i64 220] ∧ HomeAt w' Fp b h ∧ New w w') := by
 have H0 := H
 obtain ⟨bi, ig, cap, r, FpE, L, c, hB, hI, hM, hP, hEn⟩ := H0
 have hmn := m.hn
 have hpos := hI.pos
 have ne_b_bi := hP.ne_b_bi
 have ne_b_ig := hP.ne_b_ig
 have ne_bi_ig : NE bi ig := hI.ne
 have hrE := (hM.foot r).2 (.inl rfl)
 have hF := Only.refl (fun _ => False) w
 refine ZeD 71 Try.func71 ?_
 refine Zsr ?_
 refine Znb (cs := msgE.arr m) fun b1 w2 hN3 B4 hb5 => ?_
 refine Zna (z := zv5) (cs := #[.slice none 0 0]) (by kernel_rfl) fun b6 w7 hN8 B9 hb10 => ?_
 replace H := H.new hN3
 have ap_Fp_b6 := H.apart hb10
 replace hF := hF.trNew hN3
 have g_b6 := hF.sz hb10
 refine Zna (z := .int .i64 0) (cs := #[.int .i64 0]) (by kernel_rfl) fun b11 w12 hN13 B14 hb15 => ?_
 replace H := H.new hN8
 have ap_Fp_b11 := H.apart hb15
 have ne_b6_b11 := nelt B9.lt hb15
 replace hF := hF.trNew hN8
 have g_b11 := hF.sz hb15
 refine Znq ?_
 refine Zbl ?_
 refine Zsm ?_
 replace hB := ((hB.new hN3).new hN8).new hN13
 refine Zk cf72 (hnone_c hB) ?_
 rintro v w9 ⟨rfl, hw9⟩
 obtain rfl := hw9.symm
 refine Zan ?_
 refine Zcf ?_
 refine Zsr ?_
 replace B4 := (B4.new hN8).new hN13
 refine ZE msgE ag35 (B4.rangeE msgE) ?_
 refine Zk cf48 (chk_c m _) ?_
 rintro v w18 ⟨rfl, hN19⟩
 refine Zv (.bool false) (fun _ fr => x_neq rfl (fr.ev rfl) rfl (decide_eq_false hc)) ?_
 refine Zm ?_
 refine Zf fo35_2 ?_
 replace B4 := B4.new hN19
 refine Zd (v := .int .i64 m.dst) pl3 (B4.cell 2 rfl) ?_
 refine Zv (.bool false) (fun _ fr => x_neq rfl (fr.ev rfl) rfl (decide_eq_false hx)) ?_
 refine Zpf ?_
 refine Zan ?_
 refine Zcf ?_
 refine Zsq ?_
 refine Zhd (n := 7) (fun w => Blk w b1 35 (msgE.arr m) ∧ True) ?_
 intro w20 hN21
 replace B4 := B4.new hN21
 have hS9 := And.intro B4 trivial
 refine Zhf 0 fo35_3 hS9 ?_
 refine Zhl (v := .int .u32 m.line) 1 pl32 hS9 (fun _ ⟨B4, _⟩ => (B4.cell 3 rfl)) ?_
 refine Zht 2 rfl _ hS9 (fun _ fr _ _ => x_convert Try.underlying32 Try.underlying2 rfl (fr.ev rfl) (i64w (r := m.line) rfl (by omega))) ?_
 refine Zhm 3 hS9 ?_
 refine Zh1 4 ?_
 replace hI := ((((hI.new hN3).new hN8).new hN13).new hN19).new hN21
 replace hB := (hB.new hN19).new hN21
 refine Zk cf85 (lines_r hB hI) ?_
 rintro v w9 ⟨rfl, hw9⟩
 obtain rfl := hw9.symm
 refine Zhb ⟨B4, trivial⟩ ?_
 have hS9 := And.intro B4 trivial
 refine Zht 5 rfl (.bool false) hS9 (fun _ fr _ _ => x_geq rfl (fr.ev rfl) (fr.ev rfl) (decide_eq_false hr)) ?_
 refine Zha 6 hS9 ?_
 refine Zhn ?_
 refine Znx ?_
 refine Zcf ?_
 refine Zsk ?_
 refine Zbn ?_
 refine Zsr ?_
 refine Zv _ (fun _ fr => x_makeFunc (vs := [.pointer (some ⟨b6, 0, none⟩), .pointer (some ⟨b11, 0, none⟩)]) rfl ⟨(fr.ev rfl), (fr.ev rfl), trivial⟩) ?_
 intro a fr
 refine fx_defer fr rfl rfl (x_deferv (vs := []) rfl (fr.ev rfl) trivial) ?_
 clear fr a
 refine Znn ?_
 refine Zsm ?_
 refine Zf fo35_3 ?_
 refine Zd (v := .int .u32 m.line) pl32 (B4.cell 3 rfl) ?_
 replace hM := ((((hM.new hN3).new hN8).new hN13).new hN19).new hN21
 refine Zk (args := #[.pointer (some ⟨b, 0, none⟩), .int .u32 m.line]) cf87 (hof_c hB hM m.line (by omega) (by omega)) ?_
 rintro v w28 ⟨Q24, qc25, rfl, OQ26, hA27, hN29⟩
 have ap_Q24_b : Apart Q24 b := new_apart hA27 hB.lt
 have ap_Q24_bi : Apart Q24 bi := new_apart hA27 hI.lt.1
 have ap_Q24_ig : Apart Q24 ig := new_apart hA27 hI.lt.2
 refine Zna (z := zv4) (cs := #[.int .i64 0, .bool false, .bool false, .bool false, .bool false, .bool false, .int .i64 0, .int .i64 0, .int .i64 0, .bool false, .slice none 0 0]) (by kernel_rfl) fun b30 w31 hN32 B33 hb34 => ?_
 replace hB := hB.new hN29
 have ne_b_b30 := nelt hB.lt hb34
 replace hI := hI.new hN29
 have ne_bi_b30 := nelt hI.lt.1 hb34
 have ne_ig_b30 := nelt hI.lt.2 hb34
 replace H := (((H.new hN13).new hN19).new hN21).new hN29
 have ap_Fp_b30 := H.apart hb34
 replace B4 := B4.new hN29
 have ne_b1_b30 := nelt B4.lt hb34
 replace B9 := (((B9.new hN13).new hN19).new hN21).new hN29
 have ne_b6_b30 := nelt B9.lt hb34
 replace B14 := ((B14.new hN19).new hN21).new hN29
 have ne_b11_b30 := nelt B14.lt hb34
 have ap_Q24_b30 := OQ26.apart hb34
 replace hF := (((hF.trNew hN13).trNew hN19).trNew hN21).trNew hN29
 have g_b30 := hF.sz hb34
 refine ZsS sz147 (ent_all _ _ _ _) B33 rfl rfl fun w35 hO36 B33 => ?_
 refine Znn ?_
 refine Zsm ?_
 refine Zf fo35_3 ?_
 replace B4 := (B4.new hN32).only hO36 ne_b1_b30
 refine Zd (v := .int .u32 m.line) pl32 (B4.cell 3 rfl) ?_
 refine Zv (.agg (#[.slice none 0 0, .pointer (some ⟨b30, 0, none⟩), .pointer (some ⟨b, 0, none⟩), .int .u32 m.line])) (fun a fr => x_build (cells := #[.slice none 0 0, .pointer (some ⟨b30, 0, none⟩), .pointer (some ⟨b, 0, none⟩), .int .u32 m.line]) rfl (by simp only [List.map_toArray, List.map_cons, List.map_nil, show a.eval (.tmp 6) = .pointer (some ⟨b30, 0, none⟩) from fr.ev rfl, show a.eval (.tmp 32) = .pointer (some ⟨b, 0, none⟩) from fr.ev rfl, show a.eval (.tmp 34) = .int .u32 m.line from fr.ev rfl]; kernel_rfl)) ?_
 refine Znb (cs := #[.slice none 0 0, .pointer (some ⟨b30, 0, none⟩), .pointer (some ⟨b, 0, none⟩), .int .u32 m.line]) fun b37 w38 hN39 B40 hb41 => ?_
 replace hB := (hB.new hN32).only hO36 ne_b_b30
 have ne_b_b37 := nelt hB.lt hb41
 replace hI := (hI.new hN32).only hO36 ne_bi_b30 ne_ig_b30
 have ne_bi_b37 := nelt hI.lt.1 hb41
 have ne_ig_b37 := nelt hI.lt.2 hb41
 replace OQ26 := (OQ26.new hN32).only hO36 (Apart.ne1 ap_Q24_b30)
 have ap_Q24_b37 := OQ26.apart hb41
 have ne_b30_b37 := nelt B33.lt hb41
 refine Zan ?_
 refine Zsr ?_
 intro a fr
 refine fx_makeMap fr rfl rfl rfl (by first | decide | simp) ?_
 clear fr a
 intro r42 w43 hN44 M45 hb46
 replace hB := hB.new hN39
 have ne_b_r42 := nelt hB.lt hb46
 replace hI := hI.new hN39
 have ne_bi_r42 := nelt hI.lt.1 hb46
 have ne_ig_r42 := nelt hI.lt.2 hb46
 replace H := ((H.new hN32).only hO36 (ne1P ap_Fp_b30)).new hN39
 have ap_Fp_r42 := H.apart hb46
 replace B4 := B4.new hN39
 have ne_b1_r42 := nelt B4.lt hb46
 replace B9 := ((B9.new hN32).only hO36 ne_b6_b30).new hN39
 have ne_b6_r42 := nelt B9.lt hb46
 replace B14 := ((B14.new hN32).only hO36 ne_b11_b30).new hN39
 have ne_b11_r42 := nelt B14.lt hb46
 replace OQ26 := OQ26.new hN39
 have ap_Q24_r42 := OQ26.apart hb46
 replace B33 := B33.new hN39
 have ne_b30_r42 := nelt B33.lt hb46
 have ne_b37_r42 := nelt B40.lt hb46
 replace hF := ((hF.trNew hN32).loc hO36 (.inr g_b30)).trNew hN39
 have g_r42 := hF.sz hb46
 refine Zm ?_
 refine Zv _ (fun _ fr => x_makeBound rfl (fr.ev rfl)) ?_
 intro a fr
 refine fx_insert (es' := #[⟨.int .i64 1, .func (.func 88) #[.pointer (some ⟨b37, 0, none⟩)] #[], 0⟩]) Try.underlying178 Try.underlying33 rfl rfl rfl (fr.ev rfl) rfl (fr.ev rfl) M45 rfl rfl fun w47 hO48 hBq => ?_
 revert a
 replace M45 := hBq
 clear hBq
 refine Zm ?_
 refine Zv _ (fun _ fr => x_makeBound rfl (fr.ev rfl)) ?_
 intro a fr
 refine fx_insert (es' := #[⟨.int .i64 1, .func (.func 88) #[.pointer (some ⟨b37, 0, none⟩)] #[], 0⟩, ⟨.int .i64 2, .func (.func 88) #[.pointer (some ⟨b37, 0, none⟩)] #[], 1⟩]) Try.underlying178 Try.underlying33 rfl rfl rfl (fr.ev rfl) rfl (fr.ev rfl) M45 rfl rfl fun w49 hO50 hBq => ?_
 revert a
 replace M45 := hBq
 clear hBq
 refine Zm ?_
 refine Zv _ (fun _ fr => x_makeBound rfl (fr.ev rfl)) ?_
 intro a fr
 refine fx_insert (es' := #[⟨.int .i64 1, .func (.func 88) #[.pointer (some ⟨b37, 0, none⟩)] #[], 0⟩, ⟨.int .i64 2, .func (.func 88) #[.pointer (some ⟨b37, 0, none⟩)] #[], 1⟩, ⟨.int .i64 3, .func (.func 88) #[.pointer (some ⟨b37, 0, none⟩)] #[], 2⟩]) Try.underlying178 Try.underlying33 rfl rfl rfl (fr.ev rfl) rfl (fr.ev rfl) M45 rfl rfl fun w51 hO52 hBq => ?_
 revert a
 replace M45 := hBq
 clear hBq
 refine Zm ?_
 refine Zv _ (fun _ fr => x_makeBound rfl (fr.ev rfl)) ?_
 intro a fr
 refine fx_insert (es' := #[⟨.int .i64 1, .func (.func 88) #[.pointer (some ⟨b37, 0, none⟩)] #[], 0⟩, ⟨.int .i64 2, .func (.func 88) #[.pointer (some ⟨b37, 0, none⟩)] #[], 1⟩, ⟨.int .i64 3, .func (.func 88) #[.pointer (some ⟨b37, 0, none⟩)] #[], 2⟩, ⟨.int .i64 11, .func (.func 89) #[.pointer (some ⟨b37, 0, none⟩)] #[], 3⟩]) Try.underlying178 Try.underlying33 rfl rfl rfl (fr.ev rfl) rfl (fr.ev rfl) M45 rfl rfl fun w53 hO54 hBq => ?_
 revert a
 replace M45 := hBq
 clear hBq
 refine Zm ?_
 refine Zv _ (fun _ fr => x_makeBound rfl (fr.ev rfl)) ?_
 intro a fr
 refine fx_insert (es' := #[⟨.int .i64 1, .func (.func 88) #[.pointer (some ⟨b37, 0, none⟩)] #[], 0⟩, ⟨.int .i64 2, .func (.func 88) #[.pointer (some ⟨b37, 0, none⟩)] #[], 1⟩, ⟨.int .i64 3, .func (.func 88) #[.pointer (some ⟨b37, 0, none⟩)] #[], 2⟩, ⟨.int .i64 11, .func (.func 89) #[.pointer (some ⟨b37, 0, none⟩)] #[], 3⟩, ⟨.int .i64 12, .func (.func 90) #[.pointer (some ⟨b37, 0, none⟩)] #[], 4⟩]) Try.underlying178 Try.underlying33 rfl rfl rfl (fr.ev rfl) rfl (fr.ev rfl) M45 rfl rfl fun w55 hO56 hBq => ?_
 revert a
 replace M45 := hBq
 clear hBq
 refine Zm ?_
 refine Zv _ (fun _ fr => x_makeBound rfl (fr.ev rfl)) ?_
 intro a fr
 refine fx_insert (es' := #[⟨.int .i64 1, .func (.func 88) #[.pointer (some ⟨b37, 0, none⟩)] #[], 0⟩, ⟨.int .i64 2, .func (.func 88) #[.pointer (some ⟨b37, 0, none⟩)] #[], 1⟩, ⟨.int .i64 3, .func (.func 88) #[.pointer (some ⟨b37, 0, none⟩)] #[], 2⟩, ⟨.int .i64 11, .func (.func 89) #[.pointer (some ⟨b37, 0, none⟩)] #[], 3⟩, ⟨.int .i64 12, .func (.func 90) #[.pointer (some ⟨b37, 0, none⟩)] #[], 4⟩, ⟨.int .i64 13, .func (.func 91) #[.pointer (some ⟨b37, 0, none⟩)] #[], 5⟩]) Try.underlying178 Try.underlying33 rfl rfl rfl (fr.ev rfl) rfl (fr.ev rfl) M45 rfl rfl fun w57 hO58 hBq => ?_
 revert a
 replace M45 := hBq
 clear hBq
 refine Zm ?_
 refine Zf fo35_0 ?_
 replace B4 := ((((((B4.new hN44).only hO48 ne_b1_r42).only hO50 ne_b1_r42).only hO52 ne_b1_r42).only hO54 ne_b1_r42).only hO56 ne_b1_r42).only hO58 ne_b1_r42
 refine Zd (v := .int .i64 m.kind) pl33 (B4.cell 0 rfl) ?_
 refine Zv (.func (.func f) #[.pointer (some ⟨b37, 0, none⟩)] #[]) (fun _ fr => x_lookup (k := .i64) (ok := false) (v := .func (.func f) #[.pointer (some ⟨b37, 0, none⟩)] #[]) (b := true) Try.underlying178 Try.underlying33 rfl (fr.ev rfl) (fr.ev rfl) M45 (z := .nilFunc) (by kernel_rfl) (hes b37)) ?_
 refine ZE msgE ag35 (B4.rangeE msgE) ?_
 intro a fr
 replace hB := ((((((hB.new hN44).only hO48 ne_b_r42).only hO50 ne_b_r42).only hO52 ne_b_r42).only hO54 ne_b_r42).only hO56 ne_b_r42).only hO58 ne_b_r42
 replace hI := ((((((hI.new hN44).only hO48 ne_bi_r42 ne_ig_r42).only hO50 ne_bi_r42 ne_ig_r42).only hO52 ne_bi_r42 ne_ig_r42).only hO54 ne_bi_r42 ne_ig_r42).only hO56 ne_bi_r42 ne_ig_r42).only hO58 ne_bi_r42 ne_ig_r42
 replace OQ26 := ((((((OQ26.new hN44).only hO48 (Apart.ne1 ap_Q24_r42)).only hO50 (Apart.ne1 ap_Q24_r42)).only hO52 (Apart.ne1 ap_Q24_r42)).only hO54 (Apart.ne1 ap_Q24_r42)).only hO56 (Apart.ne1 ap_Q24_r42)).only hO58 (Apart.ne1 ap_Q24_r42)
 replace B33 := ((((((B33.new hN44).only hO48 ne_b30_r42).only hO50 ne_b30_r42).only hO52 ne_b30_r42).only hO54 ne_b30_r42).only hO56 ne_b30_r42).only hO58 ne_b30_r42
 replace B40 := ((((((B40.new hN44).only hO48 ne_b37_r42).only hO50 ne_b37_r42).only hO52 ne_b37_r42).only hO54 ne_b37_r42).only hO56 ne_b37_r42).only hO58 ne_b37_r42
 refine fx_callp rfl (x_callb (all := #[.pointer (some ⟨b37, 0, none⟩), .agg (msgE.arr m)]) (vs := [.agg (msgE.arr m)]) rfl (fr.ev rfl) ⟨(fr.ev rfl), trivial⟩ rfl hfn hnm hbd) (hcall _ b37 b30 bi ig cap r Q24 qc25 ⟨B40, B33, hB, hI, OQ26.view, Own.nil, ⟨(by first | exact ne_b37_b30 | exact ne_b30_b37.symm), (by first | exact ne_b37_b | exact ne_b_b37.symm), (by first | exact ne_b37_bi | exact ne_bi_b37.symm), (by first | exact ne_b37_ig | exact ne_ig_b37.symm), (by first | exact ne_b30_b | exact ne_b_b30.symm), (by first | exact ne_b30_bi | exact ne_bi_b30.symm), (by first | exact ne_b30_ig | exact ne_ig_b30.symm), (by first | exact ne_b_bi | exact ne_bi_b.symm), (by first | exact ne_b_ig | exact ne_ig_b.symm), (by first | exact ne_bi_ig | exact ne_ig_bi.symm), ap_Q24_b37, ap_Q24_b30, ap_Q24_b, ap_Q24_bi, ap_Q24_ig, (apart_none b37), (apart_none b30), (apart_none b), (apart_none bi), (apart_none ig), (fun k _ h => apart_none k h)⟩⟩ OQ26) ?_
 rintro _ w59 ⟨rfl, hN60⟩
 refine fx_pt ?_
 replace B9 := (((((((B9.new hN44).only hO48 ne_b6_r42).only hO50 ne_b6_r42).only hO52 ne_b6_r42).only hO54 ne_b6_r42).only hO56 ne_b6_r42).only hO58 ne_b6_r42).new hN60
 replace B14 := (((((((B14.new hN44).only hO48 ne_b11_r42).only hO50 ne_b11_r42).only hO52 ne_b11_r42).only hO54 ne_b11_r42).only hO56 ne_b11_r42).only hO58 ne_b11_r42).new hN60
 refine fx_panD1 fr rfl (hcaught_stop B9 B14 ne_b6_b11 220) [.cell 4 29, .cell 5 26] [.slice none 0 0, .int .i64 220] rfl ?_
 rintro w9 ⟨hC9, hK9, hO9⟩
 refine ⟨⟨⟨_, rfl, x_loadV1 pl29 (hC9.cell 0 rfl)⟩, ⟨_, rfl, x_loadV1 pl26 (hK9.cell 0 rfl)⟩, trivial⟩, ?_⟩
 replace H := ((((((((H.new hN44).only hO48 (ne1P ap_Fp_r42)).only hO50 (ne1P ap_Fp_r42)).only hO52 (ne1P ap_Fp_r42)).only hO54 (ne1P ap_Fp_r42)).only hO56 (ne1P ap_Fp_r42)).only hO58 (ne1P ap_Fp_r42)).new hN60).only hO9 (fun g hg => (fun h => h.elim ((ne1P ap_Fp_b6) g hg) ((ne1P ap_Fp_b11) g hg)))
 replace hF := ((((((((hF.trNew hN44).loc hO48 (.inr g_r42)).loc hO50 (.inr g_r42)).loc hO52 (.inr g_r42)).loc hO54 (.inr g_r42)).loc hO56 (.inr g_r42)).loc hO58 (.inr g_r42)).trNew hN60).locS hO9 (fun i => (fun h => h.elim (fun e => by rw [e]; exact (.inr g_b6)) (fun e => by rw [e]; exact (.inr g_b11))))
 exact ⟨_, rfl, rfl, H, hF⟩
end Go.Proofs.Ytflnlmibkbojcaa
namespace Go.Proofs.Ytflnlmibkbojcaa
open Go.RowKit
theorem w_req_n {w : World} {bw be bh bi ig cap r : Nat} {d : Ent} {Q : Option Addr} {qc : Nat} {bs : List UInt8} {m : Msg} (R : WorkR w bw be bh bi ig cap r m.line d Q qc none 0 [] bs) (hsrc : 0 ≤ m.src ∧ m.src < 4) (hb : d.busy = false) (hk : 1 ≤ m.kind ∧ m.kind ≤ 3) : Calls Try.prog 88 #[.pointer (some ⟨bw, 0, none⟩), .agg (msgE.arr m)] w (Ret fun v w' => v = .tuple #[] ∧ HRet w w' bw be bh bi ig cap r m.line Q none [] (beginF bs d m)) := by
  obtain ⟨o, sh, busy, asks, kind, waits, told, q⟩ := d
  dsimp only at *
  subst hb
  exact req_n m R (by simp) hsrc hk
theorem w_req_b {w : World} {bw be bh bi ig cap r : Nat} {d : Ent} {Q : Option Addr} {qc : Nat} {bs : List UInt8} {m : Msg} (R : WorkR w bw be bh bi ig cap r m.line d Q qc none 0 [] bs) (hsrc : 0 ≤ m.src ∧ m.src < 4) (hb : d.busy = true) (OQ : Own msgE w Q qc d.q) (hl : d.q.length ≤ 1000000) : Calls Try.prog 88 #[.pointer (some ⟨bw, 0, none⟩), .agg (msgE.arr m)] w (Ret fun v w' => v = .tuple #[] ∧ HRet w w' bw be bh bi ig cap r m.line Q none [] ({ d with q := d.q ++ [m] }, bs, ([] : List Msg))) := by
  obtain ⟨o, sh, busy, asks, kind, waits, told, q⟩ := d
  dsimp only at *
  subst hb
  exact req_b m R (by simp) hsrc OQ hl
theorem w_back {w : World} {bw be bh bi ig cap r : Nat} {d : Ent} {Q : Option Addr} {qc : Nat} {bs : List UInt8} {m : Msg} (R : WorkR w bw be bh bi ig cap r m.line d Q qc none 0 [] bs) (hsrc : 0 ≤ m.src ∧ m.src < 4) (hs : strayF d m = false) (hk : m.kind = 11) (hask : 0 ≤ d.asks ∧ d.asks < 4) (hkk : d.busy = true → d.kind = 1 ∨ d.kind = 2) : Calls Try.prog 89 #[.pointer (some ⟨bw, 0, none⟩), .agg (msgE.arr m)] w (Ret fun v w' => v = .tuple #[] ∧ HRet w w' bw be bh bi ig cap r m.line Q none [] (otherF bs d m)) := by
  obtain ⟨o, sh, busy, asks, kind, waits, told, q⟩ := d
  dsimp only at *
  simp [strayF, hk] at hs
  obtain ⟨⟨rfl, h1⟩, h2⟩ := hs
  exact back_ok m R (by simp) hsrc hask hk (by omega) h2 (hkk rfl)
theorem w_ack {w : World} {bw be bh bi ig cap r : Nat} {d : Ent} {Q : Option Addr} {qc : Nat} {bs : List UInt8} {m : Msg} (R : WorkR w bw be bh bi ig cap r m.line d Q qc none 0 [] bs) (hsrc : 0 ≤ m.src ∧ m.src < 4) (hs : strayF d m = false) (hk : m.kind = 12) (hask : 0 ≤ d.asks ∧ d.asks < 4) (hw4 : d.waits ≤ 4) : Calls Try.prog 90 #[.pointer (some ⟨bw, 0, none⟩), .agg (msgE.arr m)] w (Ret fun v w' => v = .tuple #[] ∧ HRet w w' bw be bh bi ig cap r m.line Q none [] (otherF bs d m)) := by
  obtain ⟨o, sh, busy, asks, kind, waits, told, q⟩ := d
  dsimp only at *
  simp [strayF, hk] at hs
  obtain ⟨⟨rfl, h1⟩, ⟨h2, h3⟩, h4⟩ := hs
  exact ack_ok m R (by simp) hsrc hask hk (by omega) h2 h3 h4
theorem w_done {w : World} {bw be bh bi ig cap r : Nat} {d : Ent} {Q : Option Addr} {qc : Nat} {bs : List UInt8} {m : Msg} (R : WorkR w bw be bh bi ig cap r m.line d Q qc none 0 [] bs) (hsrc : 0 ≤ m.src ∧ m.src < 4) (hs : strayF d m = false) (hk : m.kind = 13) (ht : d.told = true → d.waits = 0) (hq : ∀ x ∈ d.q, QOk m.line x) (hl : d.q.length ≤ 100000) : Calls Try.prog 91 #[.pointer (some ⟨bw, 0, none⟩), .agg (msgE.arr m)] w (Ret fun v w' => v = .tuple #[] ∧ HRet w w' bw be bh bi ig cap r m.line Q none [] (otherF bs d m)) := by
  obtain ⟨o, sh, busy, asks, kind, waits, told, q⟩ := d
  dsimp only at *
  simp [strayF, hk] at hs
  obtain ⟨rfl, rfl, h4⟩ := hs
  obtain rfl := ht rfl
  exact done_ok m R (by simp) hsrc hk h4 hq (by simp; omega)
theorem begin_bs {bs : List UInt8} {d : Ent} {m : Msg} : (beginF bs d m).2.1.length = bs.length := by
  unfold beginF; dsimp only
  split
  · show (if d.o = m.src then setLn bs m.line m.bs else bs).length = _
    split
    · exact setLn_length _ _ _
    · rfl
  · split
    · rfl
    · split
      · split <;> rfl
      · split <;> rfl
theorem drain_bs : ∀ (q : List Msg) (bs : List UInt8) (d : Ent), (drainF q bs d).2.1.length = bs.length
  | [], bs, d => rfl
  | m :: r, bs, d => by
    unfold drainF
    split
    · rfl
    · dsimp only
      rw [drain_bs r, begin_bs]
theorem other_bs {bs : List UInt8} {d : Ent} {m : Msg} : (otherF bs d m).2.1.length = bs.length := by
  unfold otherF
  split
  · exact drain_bs _ _ _
  · split
    · dsimp only
      split <;> exact setLn_length _ _ _
    · split <;> rfl
def HOk (h : HD) : Prop := ∀ n, n < h.E.length → EOk n (entOf h.E n) ∧ (entOf h.E n).q.length ≤ 100000
theorem chk_home {m : Msg} (h : chk m = 0) (hd : m.dst = 4) : homeK m.kind = true ∧ 0 ≤ m.src ∧ m.src < 4 := by
  unfold chk goodMsg at h
  have hx := home_not m.kind
  have h2 : isCache m.dst = false := by rw [hd]; rfl
  simp [hd, h2, isCache] at h
  exact ⟨h.1, h.2.1, by have := h.2.2.1; omega⟩
theorem htake_c {w : World} {Fp : Nat → Prop} {b : Nat} {h : HD} (H : HomeAt w Fp b h) (m : Msg) (hok : HOk h) : Calls Try.prog 71 #[.pointer (some ⟨b, 0, none⟩), .agg (msgE.arr m)] w (Ret fun v w' => TakeH w Fp b (takeH h m) v w') := by
  have hlen := H.len
  by_cases h1 : chk m ≠ 0
  · refine (htake_a1 H m h1).mono ?_
    rintro e w' ⟨v, rfl, hv, hC, hn⟩
    exact ⟨v, rfl, takeH_no 2 (by unfold takeH; rw [if_pos (.inl h1)]) hv hC hn⟩
  by_cases h2 : m.dst ≠ 4
  · refine (htake_a2 H m h1 h2).mono ?_
    rintro e w' ⟨v, rfl, hv, hC, hn⟩
    exact ⟨v, rfl, takeH_no 2 (by unfold takeH; rw [if_pos (.inr h2)]) hv hC hn⟩
  have h0 : ¬ (chk m ≠ 0 ∨ m.dst ≠ 4) := fun h => h.elim h1 h2
  have hmn := m.hn
  by_cases h3 : ((h.bs.length / 16 : Nat) : Int) ≤ m.line
  · refine (take_r H m h1 h2 h3).mono ?_
    rintro e w' ⟨v, rfl, hv, hC, hn⟩
    exact ⟨v, rfl, takeH_no 4 (by unfold takeH; rw [if_neg h0, if_pos (by rw [hlen.1]; exact h3)]) hv hC hn⟩
  have h3' : ¬ (h.E.length : Int) ≤ m.line := by rw [hlen.1]; exact h3
  have hn : m.line.toNat < h.E.length := by omega
  obtain ⟨hE, hql⟩ := hok _ hn
  obtain ⟨hhome, hsrc⟩ := chk_home (Decidable.not_not.1 h1) (Decidable.not_not.1 h2)
  have hkn : (((entOf h.E m.line.toNat) : Ent)) = h.E.getD m.line.toNat ent0 := rfl
  have hq : ∀ x ∈ (entOf h.E m.line.toNat).q, QOk m.line x := fun x hx => by
    obtain ⟨a1, a2, a3, a4, a5⟩ := hE.q x hx
    exact ⟨a1, a2, ⟨a3, a4⟩, by rw [a5, Int.toNat_of_nonneg hmn.1]⟩
  have hreq : m.kind ≤ 3 → 1 ≤ m.kind → ∃ f fn, Try.prog.funcs[f]? = some fn ∧ (fn.name == "runtime.NumGoroutine") = false ∧ fn.body.isNone = false ∧ f = 88 ∧ (∀ b, (Instr.findNow (.int .i64) (.int .i64 m.kind) (htakeEs b).toList 0).map (fun q => (match q with | some (_, u) => u | none => .nilFunc, q.isSome)) = some (.func (.func f) #[.pointer (some ⟨b, 0, none⟩)] #[], true)) := fun ha hb => by
    refine ⟨88, _, Try.func88, nm88, rfl, rfl, fun b => ?_⟩
    have : m.kind = 1 ∨ m.kind = 2 ∨ m.kind = 3 := by omega
    rcases this with hk | hk | hk <;> rw [hk] <;> rfl
  unfold homeK at hhome
  simp only [Bool.or_eq_true, decide_eq_true_eq] at hhome
  by_cases hk3 : m.kind ≤ 3
  · have hk1 : 1 ≤ m.kind := by omega
    obtain ⟨f, fn, hfn, hnm, hbd, rfl, hes⟩ := hreq hk3 hk1
    cases hb : (entOf h.E m.line.toNat).busy with
    | true =>
      refine (htake_ret (x := ({ (entOf h.E m.line.toNat) with q := (entOf h.E m.line.toNat).q ++ [m] }, h.bs, [])) H m h1 h2 h3 hql hfn hnm hbd hes rfl fun w1 bw be bi ig cap r Q qc R OQ => w_req_b R hsrc hb OQ (by omega)).mono ?_
      rintro e w' ⟨v, rfl, hv⟩
      refine ⟨v, rfl, ?_⟩
      unfold takeH
      rw [if_neg h0, if_neg h3']
      dsimp only
      rw [if_pos hk3, ← hkn, if_pos hb]
      exact hv
    | false =>
      refine (htake_ret (x := beginF h.bs (entOf h.E m.line.toNat) m) H m h1 h2 h3 hql hfn hnm hbd hes begin_bs fun w1 bw be bi ig cap r Q qc R OQ => w_req_n R hsrc hb ⟨hk1, hk3⟩).mono ?_
      rintro e w' ⟨v, rfl, hv⟩
      refine ⟨v, rfl, ?_⟩
      unfold takeH
      rw [if_neg h0, if_neg h3']
      dsimp only
      rw [if_pos hk3, ← hkn, if_neg (by rw [hb]; decide)]
      exact hv
  · have hks : m.kind = 11 ∨ m.kind = 12 ∨ m.kind = 13 := by omega
    cases hs : strayF (entOf h.E m.line.toNat) m with
    | true =>
      have hp : Calls Try.prog 71 #[.pointer (some ⟨b, 0, none⟩), .agg (msgE.arr m)] w (Ret fun v w' => v = .tuple #[.slice none 0 0, .int .i64 220] ∧ HomeAt w' Fp b h ∧ New w w') := by
        rcases hks with hk | hk | hk
        · exact htake_pan H m h1 h2 h3 hql (f := 89) Try.func89 nm89 rfl (fun _ => by rw [hk]; rfl) fun w1 bw be bi ig cap r Q qc R OQ => back_no m R (by simp) hsrc hk hs
        · exact htake_pan H m h1 h2 h3 hql (f := 90) Try.func90 nm90 rfl (fun _ => by rw [hk]; rfl) fun w1 bw be bi ig cap r Q qc R OQ => ack_no m R (by simp) hsrc hk hs
        · exact htake_pan H m h1 h2 h3 hql (f := 91) Try.func91 nm91 rfl (fun _ => by rw [hk]; rfl) fun w1 bw be bi ig cap r Q qc R OQ => done_no m R (by simp) hsrc hk hs
      refine hp.mono ?_
      rintro e w' ⟨v, rfl, hv, hC, hn⟩
      exact ⟨v, rfl, takeH_no 220 (by unfold takeH; rw [if_neg h0, if_neg h3']; dsimp only; rw [if_neg hk3, ← hkn, if_pos hs]) hv hC hn⟩
    | false =>
      have hp : Calls Try.prog 71 #[.pointer (some ⟨b, 0, none⟩), .agg (msgE.arr m)] w (Ret fun v w' => TakeH w Fp b (⟨(otherF h.bs (entOf h.E m.line.toNat) m).2.1, h.E.set m.line.toNat (otherF h.bs (entOf h.E m.line.toNat) m).1⟩, (otherF h.bs (entOf h.E m.line.toNat) m).2.2, 0) v w') := by
        rcases hks with hk | hk | hk
        · exact htake_ret H m h1 h2 h3 hql (f := 89) Try.func89 nm89 rfl (fun _ => by rw [hk]; rfl) other_bs fun w1 bw be bi ig cap r Q qc R OQ => w_back R hsrc hs hk hE.asks hE.kind
        · exact htake_ret H m h1 h2 h3 hql (f := 90) Try.func90 nm90 rfl (fun _ => by rw [hk]; rfl) other_bs fun w1 bw be bi ig cap r Q qc R OQ => w_ack R hsrc hs hk hE.asks hE.waits.2
        · exact htake_ret H m h1 h2 h3 hql (f := 91) Try.func91 nm91 rfl (fun _ => by rw [hk]; rfl) other_bs fun w1 bw be bi ig cap r Q qc R OQ => w_done R hsrc hs hk hE.told hq hql
      refine hp.mono ?_
      rintro e w' ⟨v, rfl, hv⟩
      refine ⟨v, rfl, ?_⟩
      unfold takeH
      rw [if_neg h0, if_neg h3']
      dsimp only
      rw [if_neg hk3, ← hkn, if_neg (by rw [hs]; decide)]
      exact hv
end Go.Proofs.Ytflnlmibkbojcaa
namespace Go.Proofs.Ytflnlmibkbojcaa
open Go.RowKit
theorem nodup_len : ∀ (l m : List Slot), l.Nodup → (∀ x ∈ l, x ∈ m) → l.length ≤ m.length
  | [], _, _, _ => Nat.zero_le _
  | x :: l, m, hn, hs => by
    rw [List.nodup_cons] at hn
    have hx : x ∈ m := hs x (by simp)
    have h2 := nodup_len l (m.erase x) hn.2 fun y hy => (List.mem_erase_of_ne (fun e : y = x => hn.1 (e ▸ hy))).2 (hs y (by simp [hy]))
    rw [List.length_erase_of_mem hx] at h2
    have := List.length_pos_of_mem hx
    simp only [List.length_cons]
    omega
def IterAt (w : World) (it r c : Nat) (pre : List Slot) : Prop := w.heap[it]? = some (.mapIter (some r) c (pre.map Slot.born).toArray c)
section
variable {w w' : World} {S : Nat → Prop} {it r c : Nat} {pre L : List Slot} {es : Array MapEntry}
theorem IterAt.keep (h : IterAt w it r c pre) (k : KeepsWalks w w') : IterAt w' it r c pre := k.same _ _ h rfl
theorem MapBlk.keep (h : MapBlk w r es c) (k : KeepsWalks w w') : MapBlk w' r es c := k.same _ _ h rfl
theorem IterAt.grown (h : IterAt w it r c pre) (k : Only (fun j => j = it) w w') : w.grownBy w' (some it) ∧ ∃ o : Obj, w.heap[it]? = some o ∧ o.isWalk = true :=
  ⟨⟨k.os, k.tape, k.output, k.size, fun j hj hne => k.block j hj fun e => hne (by rw [e])⟩, _, h, rfl⟩
end
section
variable {P : Program} {N : Nat × List Deferred} {T : List (Nat × Value)} {a : Act} {w : World} {Q : Exit → Act → World → Prop} {ops : Array Oper} {rest : List Oper} {o : Oper} {d : Nat}
theorem fx_rangeMap {t K E : TypeId} {x : Operand} {r c : Nat} {es : Array MapEntry} (fr : Fr N T a) (hw : Region.wanted o (yielded ops a.tmps) = true) (ht : P.underlying t = some (.map K E)) (ho : o.op = .range t x) (hd : o.dst = some d) (hN : d < N.1) (hx : a.eval x = .map (some r)) (hM : MapBlk w r es c)
    (next : ∀ it w1, New w w1 → IterAt w1 it r c [] → w.heap.size ≤ it → ∀ a, Fr N ((d, .pointer (some ⟨it, 0, none⟩)) :: T) a → wpList P ops Q rest a w1) : wpList P ops Q (o :: rest) a w := by
  refine fx_val (v := .pointer (some ⟨w.heap.size, 0, none⟩)) (w1 := w.alloc (.mapIter (some r) c #[] c)) fr hw hd hN ?_ fun a fr => next w.heap.size _ ((Only.refl _ w).alloc _) (Go.heap_alloc_new w _) (Nat.le_refl _) a fr
  have := run_range_map w t K E r es c ht hM
  simp [execOp, ho, hx, this]
theorem fx_next_map {x : Operand} {it r c : Nat} {pre L : List Slot} (fr : Fr N T a) (hw : Region.wanted o (yielded ops a.tmps) = true) (ho : o.op = .next x false) (hd : o.dst = some d) (hN : d < N.1) (hx : a.eval x = .pointer (some ⟨it, 0, none⟩)) (hI : IterAt w it r c pre) (hM : MapBlk w r (esOf L) c) (hb : ∀ s ∈ L, s.born < c)
    (no : (∀ s ∈ L, s ∈ pre) → (∀ s ∈ pre, s ∈ L) → ∀ a, Fr N ((d, .tuple #[.bool false]) :: T) a → wpList P ops Q rest a w)
    (yes : ∀ s w1, s ∈ L → s ∉ pre → Only (fun k => k = it) w w1 → IterAt w1 it r c (pre ++ [s]) → MapBlk w1 r (esOf L) c → ∀ a, Fr N ((d, .tuple #[.bool true, .int .u32 ((s.k : Nat) : Int), .pointer (some ⟨s.b, 0, none⟩)]) :: T) a → wpList P ops Q rest a w1)
    (hpre : ∀ s ∈ pre, s ∈ L) (hbs : (L.map Slot.born).Nodup) : wpList P ops Q (o :: rest) a w := by
  have hr : w.heap[it]? = some (.mapIter (some r) c (pre.map Slot.born).toArray c) := hI
  have hne : ¬ it = r := fun e => by subst e; rw [show w.heap[it]? = _ from hM] at hr; cases hr
  have inj : ∀ s ∈ L, ∀ t ∈ L, s.born = t.born → s = t := by
    intro s hs t ht e
    obtain ⟨i, hi, rfl⟩ := List.getElem_of_mem hs
    obtain ⟨j, hj, rfl⟩ := List.getElem_of_mem ht
    have hp := List.pairwise_iff_getElem.1 hbs
    rcases Nat.lt_trichotomy i j with h | h | h
    · exact (hp i j (by simpa using hi) (by simpa using hj) h (by simpa using e)).elim
    · subst h; rfl
    · exact (hp j i (by simpa using hj) (by simpa using hi) h (by simpa using e.symm)).elim
  have hold : ∀ x ∈ (esOf L).toList, x.born < c := by
    intro x hx
    obtain ⟨s, hs, rfl⟩ := List.mem_map.1 (show x ∈ L.map Slot.me from hx)
    exact hb s hs
  rcases run_next_at (P := P) w o.type it r c c _ (esOf L) c hr hM hold (Nat.le_refl _) with ⟨h0, hrun⟩ | ⟨e, he, w1, hw1, hrun⟩
  · refine fx_val (v := .tuple #[.bool false]) (w1 := w) fr hw hd hN (by simp [execOp, ho, hx, hrun]) (no ?_ hpre)
    intro s hs
    have : leftOf (esOf L) (pre.map Slot.born).toArray = #[] := Array.eq_empty_of_size_eq_zero h0
    have h1 := (Array.filter_eq_empty_iff.1 this) s.me (by simp [esOf]; exact ⟨s, hs, rfl⟩)
    simp [Slot.me] at h1
    obtain ⟨t, ht, hte⟩ := h1
    rw [← inj t (hpre t ht) s hs hte]
    exact ht
  · have hel : e ∈ esOf L ∧ (!(pre.map Slot.born).toArray.contains e.born) = true := by
      have := Array.mem_filter.1 (show e ∈ leftOf (esOf L) (pre.map Slot.born).toArray by simpa using he)
      exact this
    obtain ⟨s, hs, rfl⟩ := List.mem_map.1 (show e ∈ L.map Slot.me by simpa [esOf] using hel.1)
    have hns : s ∉ pre := by
      intro hp
      have := hel.2
      simp [Slot.me] at this
      exact this s hp rfl
    have hsz : it < w1.heap.size := by
      have := (Array.getElem?_eq_some_iff.1 hr).1
      rcases hw1 with rfl | rfl <;> exact this
    have hO : Only (fun k => k = it) w (ChangeMaps.setBlock w1 it (.mapIter (some r) c ((pre.map Slot.born).toArray.push s.me.born) c)) := by
      have h1 : Only (fun k => k = it) w w1 := by
        rcases hw1 with rfl | rfl
        · exact Only.refl _ _
        · exact (Only.refl _ _).drew
      exact h1.tr (set_only hsz)
    refine fx_val (v := .tuple #[.bool true, .int .u32 ((s.k : Nat) : Int), .pointer (some ⟨s.b, 0, none⟩)]) (w1 := ChangeMaps.setBlock w1 it (.mapIter (some r) c ((pre.map Slot.born).toArray.push s.me.born) c)) fr hw hd hN (by simp [execOp, ho, hx, hrun]; exact ⟨rfl, rfl⟩) (yes s _ hs hns hO ?_ (hM.only hO fun e => hne e.symm))
    have : (ChangeMaps.setBlock w1 it (.mapIter (some r) c ((pre.map Slot.born).toArray.push s.me.born) c)).heap[it]? = some (.mapIter (some r) c ((pre.map Slot.born).toArray.push s.me.born) c) := by
      simp [ChangeMaps.setBlock, hsz]
    show _ = _
    rw [this]
    simp [Slot.me]
theorem x_entry {ev : Operand → Value} {x : Operand} {it r c : Nat} {pre L : List Slot} {s : Slot} (ho : o.op = .entry x) (hx : ev x = .pointer (some ⟨it, 0, none⟩)) (hI : IterAt w it r c (pre ++ [s])) (hM : MapBlk w r (esOf L) c) (hs : s ∈ L) (hbs : (L.map Slot.born).Nodup) :
    (execOp ev o).run P w = .ok (.value (.tuple #[.int .u32 ((s.k : Nat) : Int), .pointer (some ⟨s.b, 0, none⟩)])) w := by
  have hr2 : w.heap[it]? = some (.mapIter (some r) c ((pre.map Slot.born).toArray.push s.me.born) c) := by
    rw [show w.heap[it]? = _ from hI]
    simp [Slot.me]
  have hn : ((esOf L).toList.map (·.born)).Nodup := by
    have : (esOf L).toList.map (·.born) = L.map Slot.born := by
      show (L.map Slot.me).map (·.born) = _
      rw [List.map_map]
      rfl
    rw [this]
    exact hbs
  have hmem : s.me ∈ (esOf L).toList := by
    show s.me ∈ L.map Slot.me
    exact List.mem_map.2 ⟨s, hs, rfl⟩
  have := run_entry_at (P := P) w it r c _ (esOf L) c s.me hr2 hM hmem hn
  simp [execOp, ho, hx, this]
  exact ⟨rfl, rfl⟩
end
theorem Step.walks {SI : Nat → Prop} {W W' : World} (h : Step SI W W') : KeepsWalks W W' := by
  obtain ⟨S, h1, h2⟩ := h
  refine ⟨h1.size, fun k o hk ho => ?_⟩
  have hlt := (Array.getElem?_eq_some_iff.1 hk).1
  refine (h1.block k hlt fun hs => ?_).trans hk
  obtain ⟨_, o', h3, h4⟩ := h2 k hlt hs
  rw [hk] at h3
  cases h3
  cases o <;> simp_all [Obj.isWalk, Obj.isCells]
section
variable {P : Program} {N : Nat × List Deferred} {T : List (Nat × Value)} {a : Act} {w : World} {Q : Exit → Act → World → Prop}
theorem fx_rangeK {α : Type} {S Sp : List α → Prop} {n0 : Nat} {e : α → Value} (fr : Fr N T a) {tg p gf : Nat} {lb : Array Value} (hg : look T tg = some (.func (.func gf) #[] lb)) (hp : p < N.1) (eg : ∀ (args : Array Value) (w : World), (callFunc gf args).run P w = .ok (.enter gf args) w)
    {SI : Nat → Prop} (hseq : SeqStopsK Fence.wide 8 P gf lb (fun x => #[e x]) KeepsWalks S Sp n0 w)
    (I : List α → World → Prop) (Ix : Code → List α → World → Prop) (Ax : α → Act → World → Prop) (hI : Turns w.heap.size I) (hIx : ∀ c, Turns w.heap.size (Ix c)) (hAx : ∀ x a', Turns w.heap.size fun (_ : Unit) W => Ax x a' W) (hIn : ∀ s w w', I s w → New w w' → I s w') (h0 : I [] w)
    {assign body : Code} (hassign : ∀ (l : Nat) (pre : List α) (x : α) (W : World) (K : Act → World → Prop), I pre W → (∀ a' W', New W W' → Ax x a' W' → K a' W') → ∀ a0, Fr (N.1, []) ((p, e x) :: T) a0 → assign.wpIn (Fence.wide.inRound l) 7 P (Exit.then K (fun _ _ _ => False)) a0 W)
    (hbody : ∀ (l : Nat) (pre : List α) (x : α) (a' : Act) (W : World), I pre W → Ax x a' W → pre.length < n0 → body.wpIn (Fence.wide.inRound l) 7 P (roundQ SI I Ix (pre ++ [x]) W) a' W)
    (next : ∀ D ys W, w.heap.size ≤ D → S ys → I ys W → MarkAt W D → ∀ a, Fr (N.1, { target := .collected D, args := #[] } :: N.2) T a → Q .normal a W)
    (stop : ∀ D c pre W, w.heap.size ≤ D → Sp pre → Ix c pre W → MarkAt W D → ∀ a, Fr (N.1, { target := .collected D, args := #[] } :: N.2) T a → c.wp P Q a W) :
    (Code.rangeFunc (.tmp tg) #[p] assign body).wp P Q a w := by
  have frD : ∀ D, Fr (N.1, { target := .collected D, args := #[] } :: N.2) T { a with defers := { target := .collected D, args := #[] } :: a.defers } := fun D => ⟨by show _ :: a.defers = _ :: N.2; rw [fr.df], fr.sz, fr.get⟩
  refine (wpIn_wide (n := 9)).1 (wpIn_rangeFunc_ownH (F := Fence.wide) (n := 9) rfl (by decide) (gf := gf) (lb := lb) (fr.ev hg) trivial eg hseq (fun h k => h.trans k) ?_ (Below.refl _ _) (fun _ => rfl) I Ix hI.own (fun c => (hIx c).own) h0 Ax (fun x a' => (hAx x a').own) ?_ ?_ ?_ ?_)
  · intro W l o o' hl hh hc hw
    exact walksK_b (w := w) W l o o' hl hh hc hw
  · intro l pre x W K hi hK
    have hf0 := fr.put p (e x) hp
    have he : ((#[p] : Array Nat).zip #[e x]).foldl (fun t (p, v) => t.setIfInBounds p v) a.tmps = (a.put (some p) (e x)).tmps := by simp [Act.put]
    refine hassign l pre x W K hi (fun a' W' hn hax => hK a' W' (keepsFrom_of_only hn fun _ _ h => h.elim) (Step.walks (SI := fun _ => False) (Step.new hn)) (hIn _ _ _ hi hn) hax) _ ?_
    rw [he]
    exact ⟨rfl, hf0.sz, hf0.get⟩
  · intro l pre x a' W _ _ hi hax hlen
    refine wpIn_mono (hbody l pre x a' W hi hax hlen) ?_
    intro ex a3 W3 h
    cases ex with
    | normal => exact ⟨h.1.keeps _, h.1.walks, h.2⟩
    | ret => exact ⟨h.1.keeps _, h.2⟩
    | exit id => exact ⟨h.1.keeps _, h.2⟩
    | goto t => exact h.elim
    | panic c => exact h.elim
    | outgrown => exact h.elim
  · intro D ys W hD hys hi hK
    exact next D ys W hD hys hi hK _ (frD D)
  · intro D c pre W hD hsp hi hK
    exact wpIn_wide.2 (stop D c pre W hD hsp hi hK _ (frD D))
end
def idleB (E : List Ent) : Bool := E.all fun d => !d.busy
theorem idle_all {E : List Ent} {L : List Slot} (no : ∀ k, k ∉ L.map Slot.k → entOf E k = ent0) (lt : ∀ s ∈ L, s.k < E.length) (h : ∀ s ∈ L, (entOf E s.k).busy = false) : idleB E = true := by
  unfold idleB
  rw [List.all_eq_true]
  intro d hd
  obtain ⟨k, hk, rfl⟩ := List.getElem_of_mem hd
  have he : entOf E k = E[k] := by simp [entOf, List.getD, hk]
  by_cases hm : k ∈ L.map Slot.k
  · obtain ⟨s, hs, rfl⟩ := List.mem_map.1 hm
    rw [← he, h s hs]
    rfl
  · rw [← he, no k hm]
    rfl
theorem idle_not {E : List Ent} {k : Nat} (hk : k < E.length) (h : (entOf E k).busy = true) : idleB E = false := by
  cases hb : idleB E with
  | false => rfl
  | true =>
    unfold idleB at hb
    rw [List.all_eq_true] at hb
    have he : entOf E k = E[k] := by simp [entOf, List.getD, hk]
    have := hb _ (List.getElem_mem hk)
    rw [← he, h] at this
    cases this
end Go.Proofs.Ytflnlmibkbojcaa
namespace Go.Proofs.Ytflnlmibkbojcaa
open Go.RowKit
def home0 (bs : List UInt8) : HD := ⟨bs, List.replicate (bs.length / 16) ent0⟩
theorem ents_nil {w : World} {r : Nat} (h : MapBlk w r #[] 0) (n : Nat) : EntsAt w (fun g => g = r) r (List.replicate n ent0) [] 0 := by
  refine ⟨h, by simp, by simp, by simp, by simp, fun k _ => ?_, fun g => by simp, by simp⟩
  unfold entOf
  simp only [List.getD, List.getElem?_replicate]
  split <;> rfl
theorem hnew_c {w : World} {bi ig cap : Nat} {bs : List UInt8} (hI : Img 0 w bi ig cap bs) : Calls Try.prog 36 #[.pointer (some ⟨bi, 0, none⟩)] w (Ret fun v w' => ∃ b Fp, v = .tuple #[.pointer (some ⟨b, 0, none⟩), .int .i64 0] ∧ HomeAt w' Fp b (home0 bs) ∧ (∀ g, Fp g → w.heap.size ≤ g) ∧ New w w') := by
 have hF := Only.refl (fun _ => False) w
 refine Zen 13 Try.func36 ?_
 refine Zsr ?_
 refine Za ?_
 refine Zan ?_
 refine Zsm ?_
 refine Zk cf70 (hicopy_c hI) ?_
 rintro v w8 ⟨bi1, ig2, cap3, rfl, hI4, hb5, hg6, hne7, hN9⟩
 have g_bi1 := hF.sz hb5
 have g_ig2 := hF.sz hg6
 refine Zaq ?_
 refine Zsm ?_
 refine Zv (.bool false) (fun _ fr => x_peql Try.underlying87 rfl (fr.ev rfl) rfl rfl) ?_
 refine Znf ?_
 refine Zkn ?_
 refine Zsm ?_
 intro a fr
 refine fx_makeMap fr rfl rfl rfl (by first | decide | simp) ?_
 clear fr a
 intro r10 w11 hN12 M13 hb14
 have ne_bi1_r10 := nelt hI4.lt.1 hb14
 have ne_ig2_r10 := nelt hI4.lt.2 hb14
 replace hF := hF.trNew hN9
 have g_r10 := hF.sz hb14
 refine Zv (.agg (#[.pointer (some ⟨bi1, 0, none⟩), .map (some r10)])) (fun a fr => x_build (cells := #[.pointer (some ⟨bi1, 0, none⟩), .map (some r10)]) rfl (by simp only [List.map_toArray, List.map_cons, List.map_nil, show a.eval (.tmp 9) = .pointer (some ⟨bi1, 0, none⟩) from fr.ev rfl, show a.eval (.tmp 10) = .map (some r10) from fr.ev rfl]; kernel_rfl)) ?_
 refine Znb (cs := #[.pointer (some ⟨bi1, 0, none⟩), .map (some r10)]) fun b15 w16 hN17 B18 hb19 => ?_
 replace hI4 := hI4.new hN12
 have ne_bi1_b15 := nelt hI4.lt.1 hb19
 have ne_ig2_b15 := nelt hI4.lt.2 hb19
 have ne_r10_b15 := nelt M13.lt hb19
 replace hF := hF.trNew hN12
 have g_b15 := hF.sz hb19
 refine Za ?_
 refine Zar ?_
 refine Zre rfl [_, _] ⟨rfl, rfl, trivial⟩ ?_
 replace hI4 := hI4.new hN17
 replace M13 := M13.new hN17
 replace hF := hF.trNew hN17
 exact ⟨_, rfl, b15, fun k => k = b15 ∨ k = bi1 ∨ k = ig2 ∨ k = r10, rfl, ⟨bi1, ig2, cap3, r10, fun k => k = r10, [], 0, B18, hI4, ents_nil M13 _, ⟨(by first | exact ne_b15_bi1 | exact ne_bi1_b15.symm), (by first | exact ne_b15_ig2 | exact ne_ig2_b15.symm), (by first | exact ne_b15_r10 | exact ne_r10_b15.symm), (by first | exact ne_bi1_r10 | exact ne_r10_bi1.symm), (by first | exact ne_ig2_r10 | exact ne_r10_ig2.symm), fun _ => Iff.rfl⟩, by simp [home0]⟩, fun k hk => hk.elim (fun e => by rw [e]; exact g_b15) fun hk => hk.elim (fun e => by rw [e]; exact g_bi1) fun hk => hk.elim (fun e => by rw [e]; exact g_ig2) fun e => by rw [e]; exact g_r10, hF⟩
theorem nodup_lt {pre L : List Slot} {s : Slot} (hn : pre.Nodup) (hp : ∀ x ∈ pre, x ∈ L) (hs : s ∈ L) (hns : s ∉ pre) : pre.length < L.length := by
  have := nodup_len (s :: pre) L (List.nodup_cons.2 ⟨hns, hn⟩) fun x hx => (List.mem_cons.1 hx).elim (fun e => e ▸ hs) (hp x)
  simp at this
  omega
theorem nodup_snoc {pre : List Slot} {s : Slot} (hn : pre.Nodup) (hns : s ∉ pre) : (pre ++ [s]).Nodup := by
  rw [List.nodup_append]
  exact ⟨hn, by simp, fun x hx y hy e => hns (by simp at hy; exact hy ▸ e ▸ hx)⟩
abbrev Sl (L : List Slot) := { s : Slot // s ∈ L }
def raw {L : List Slot} (l : List (Sl L)) : List Slot := l.map (·.1)
theorem raw_mem {L : List Slot} (l : List (Sl L)) : ∀ x ∈ raw l, x ∈ L := fun x hx => by
  obtain ⟨y, _, rfl⟩ := List.mem_map.1 hx
  exact y.2
theorem raw_snoc {L : List Slot} (l : List (Sl L)) (s : Slot) (h : s ∈ L) : raw (l ++ [⟨s, h⟩]) = raw l ++ [s] := by simp [raw]
theorem raw_all {L : List Slot} {l : List (Sl L)} (h : ∀ s ∈ L, s ∈ raw l) (x : Sl L) : x ∈ l := by
  obtain ⟨y, hy, he⟩ := List.mem_map.1 (h x.1 x.2)
  exact (Subtype.ext he) ▸ hy
theorem vals_stops {w : World} {bx r c : Nat} {L : List Slot} (Bx : Blk w bx 138 #[.map (some r)]) (hM : MapBlk w r (esOf L) c) (hborn : ∀ s ∈ L, s.born < c) (hbs : (L.map Slot.born).Nodup) : SeqStopsK Fence.wide 8 Try.prog 92 #[.pointer (some ⟨bx, 0, none⟩)] (fun s : Sl L => #[.pointer (some ⟨s.1.b, 0, none⟩)]) KeepsWalks (fun ys => ∀ x : Sl L, x ∈ ys) (fun _ => True) L.length w := by
 intro y J Jx w1 hW hJ hJx hY h0
 have hn := below_new hW
 replace Bx := Bx.new hn
 replace hM := hM.new hn
 have hsz := Nat.le_refl w1.heap.size
 show CallsIn Fence.wide 8 Try.prog 92 #[.func (.yield y) #[] #[], .pointer (some ⟨bx, 0, none⟩)] w1 _
 refine (callsIn_wide (n := 8)).2 ?_
 refine fx_enter Try.func92 rfl (N := (15, [])) (T := [(0, .func (.yield y) #[] #[]), (1, .pointer (some ⟨bx, 0, none⟩))]) rfl (show 2 ≤ 15 by decide) ⟨rfl, rfl, trivial⟩ fun a fr => ?_
 refine wp_seq ?_
 refine wp_region_lit ?_
 refine fx_val (v := .map (some r)) fr rfl rfl (by decide) (x_load1 pl138 rfl (fr.ev rfl) (Bx.cell 0 rfl)) ?_
 clear fr a; intro a fr
 refine fx_rangeMap fr rfl Try.underlying138 rfl rfl (by decide) (fr.ev rfl) hM ?_
 clear fr a
 intro it w1 hN2 hit hge a fr
 replace Bx := Bx.new hN2
 replace hM := hM.new hN2
 replace h0 := AbidesFrom.new hJ h0 hN2
 replace hge := Nat.le_trans hsz hge
 refine wpList_nil ?_
 refine fx_next ?_
 refine wp_block ?_
 refine fx_loop (fun nM a wL => ∃ pre : List (Sl L), nM = L.length - pre.length ∧ Fr (15, []) [(0, .func (.yield y) #[] #[]), (6, .pointer (some ⟨it, 0, none⟩))] a ∧ MapBlk wL r (esOf L) c ∧ IterAt wL it r c (raw pre) ∧ J pre wL ∧ (raw pre).Nodup) (n0 := _) ⟨[], rfl, fr.sub ⟨rfl, rfl, trivial⟩, hM, hit, h0, (by simp [raw])⟩ ?_
 rintro n4 a w3 ⟨pre, rfl, fr, hM, hit, hj, hnd⟩
 refine wp_seq ?_
 refine wp_region_lit ?_
 refine fx_next_map fr rfl rfl rfl (by decide) (fr.ev rfl) hit hM hborn (fun hall _ a fr => ?_) (fun s w2 hs hns hO9 hit9 hM9 a fr => ?_) (raw_mem pre) hbs
 ·skip
  refine fx_val (v := .bool false) fr rfl rfl (by decide) (x_extract rfl (fr.ev rfl) rfl) ?_
  clear fr a; intro a fr
  refine wpList_nil ?_
  refine fx_next ?_
  refine wp_seq ?_
  refine fx_cond_f fr rfl ?_
  refine wp_exit ?_
  refine fx_xt ?_
  refine fx_xt ?_
  refine fx_xx ?_
  refine fx_end fr [] [] rfl trivial rfl ?_
  exact ⟨⟨_, rfl⟩, .inl ⟨_, raw_all hall, hj⟩⟩
 ·skip
  replace hj := hJ _ _ _ (some it) hj (hit.grown hO9).1 (fun r9 e9 => by cases e9; exact ⟨hge, (hit.grown hO9).2⟩)
  replace hit := hit9
  replace hM := hM9
  have hlen : pre.length < L.length := by have := nodup_lt hnd (raw_mem pre) hs hns; simpa [raw] using this
  refine fx_val (v := .bool true) fr rfl rfl (by decide) (x_extract rfl (fr.ev rfl) rfl) ?_
  clear fr a; intro a fr
  refine wpList_nil ?_
  refine fx_next ?_
  refine wp_seq ?_
  refine fx_cond_t fr rfl ?_
  refine wp_skip ?_
  refine fx_next ?_
  refine wp_block ?_
  refine wp_seq ?_
  refine wp_region_lit ?_
  refine fx_val (v := .tuple #[.int .u32 ((s.k : Nat) : Int), .pointer (some ⟨s.b, 0, none⟩)]) fr rfl rfl (by decide) (x_entry rfl (fr.ev rfl) hit hM hs hbs) ?_
  clear fr a; intro a fr
  refine fx_val (v := .pointer (some ⟨s.b, 0, none⟩)) fr rfl rfl (by decide) (x_extract rfl (fr.ev rfl) rfl) ?_
  clear fr a; intro a fr
  refine fx_val (v := .pointer (some ⟨s.b, 0, none⟩)) fr rfl rfl (by decide) (x_assign rfl (fr.ev rfl)) ?_
  clear fr a; intro a fr
  refine wpList_nil ?_
  refine fx_next ?_
  refine wp_seq ?_
  refine fxi_region ?_
  refine fxi_val (v := .func (.yield y) #[] #[]) fr rfl rfl (by decide) (x_move rfl (fr.ev rfl)) ?_
  clear fr a; intro a fr
  refine fxi_val (v := .pointer (some ⟨s.b, 0, none⟩)) fr rfl rfl (by decide) (x_move rfl (fr.ev rfl)) ?_
  clear fr a; intro a fr
  refine fxi_yield (n := 8) fr rfl rfl (by decide) rfl (fr.ev rfl) (fr.ev rfl) (hY pre ⟨s, hs⟩ _ hj hlen) (fun w5 hy6 a fr => ?_) (fun w5 hy6 a fr => ?_)
  ·skip
   skip
   obtain ⟨hj, hk⟩ := hy6
   replace hit := hit.keep hk
   replace hM := hM.keep hk
   refine fxi_val (v := .bool false) fr rfl rfl (by decide) (x_not rfl (fr.ev rfl) rfl) ?_
   clear fr a; intro a fr
   refine wpListIn_nil ?_
   refine fx_next ?_
   refine fx_cond_f fr rfl ?_
   refine wp_skip ?_
   refine fx_blk ?_
   refine fx_next ?_
   exact ⟨_, (by rw [List.length_append]; simp; omega), (pre ++ [⟨s, hs⟩]), rfl, fr.sub ⟨rfl, rfl, trivial⟩, hM, (by rw [raw_snoc]; exact hit), hj, (by rw [raw_snoc]; exact nodup_snoc hnd hns)⟩
  ·skip
   skip
   have hx9 := hy6
   refine fxi_val (v := .bool true) fr rfl rfl (by decide) (x_not rfl (fr.ev rfl) rfl) ?_
   clear fr a; intro a fr
   refine wpListIn_nil ?_
   refine fx_next ?_
   refine fx_cond_t fr rfl ?_
   refine wp_ret ?_
   refine fx_rb ?_
   refine fx_rt ?_
   refine fx_rb ?_
   refine fx_ret fr [] [] rfl trivial rfl ?_
   exact ⟨⟨_, rfl⟩, .inr ⟨_, trivial, hx9⟩⟩
end Go.Proofs.Ytflnlmibkbojcaa
namespace Go.Proofs.Ytflnlmibkbojcaa
open Go.RowKit
theorem vals_c (r : Nat) (w : World) : Calls Try.prog 73 #[.map (some r)] w (Ret fun v w' => ∃ bx, v = .func (.func 92) #[] #[.pointer (some ⟨bx, 0, none⟩)] ∧ Blk w' bx 138 #[.map (some r)] ∧ w.heap.size ≤ bx ∧ New w w') := by
 have hF := Only.refl (fun _ => False) w
 refine Zen 4 Try.func73 ?_
 refine Zsr ?_
 refine Znb (cs := #[.map (some r)]) fun b1 w2 hN3 B4 hb5 => ?_
 have g_b1 := hF.sz hb5
 refine Zan ?_
 refine Zsr ?_
 refine Zv _ (fun _ fr => x_makeFunc (vs := [.pointer (some ⟨b1, 0, none⟩)]) rfl ⟨(fr.ev rfl), trivial⟩) ?_
 refine Zar ?_
 refine Zre rfl [_] ⟨rfl, trivial⟩ ?_
 replace hF := hF.trNew hN3
 exact ⟨_, rfl, b1, rfl, B4, g_b1, hF⟩
theorem idle_r {w : World} {b bi r : Nat} (hB : Blk w b 140 #[.pointer (some ⟨bi, 0, none⟩), .map (some r)]) {FpE : Nat → Prop} {E : List Ent} {L : List Slot} {c : Nat} (hM : EntsAt w FpE r E L c) : Calls Try.prog 41 #[.pointer (some ⟨b, 0, none⟩)] w (Ret fun v w' => v = .bool (idleB E) ∧ New w w') := by
 have gA_FpE := fun g (hg : FpE g) => (Or.inl trivial : True ∨ w.heap.size ≤ g)
 have hF := Only.refl (fun _ => False) w
 refine fx_enterM Try.func41 rfl (N := (16, [])) (T := [(0, .pointer (some ⟨b, 0, none⟩))]) rfl (show 1 ≤ 16 by decide) ⟨rfl, trivial⟩ fun a fr => ?_
 refine wp_seq ?_
 refine wp_region_lit ?_
 refine fx_new fr rfl rfl (by first | decide | simp) (x_alloc (z := .bool false) (cs := #[.bool false]) rfl (by kernel_rfl) rfl) ?_
 clear fr a
 intro b1 w2 hN3 B4 hb5 a fr
 have ne_b_b1 : NE b b1 := NE.mk (Nat.lt_of_lt_of_le hB.lt hb5)
 have ap_FpE_b1 : ¬ FpE b1 := hM.apart hb5
 have g_b1 := Nat.le_trans hF.size hb5
 replace hB := hB.new hN3
 replace hM := hM.new hN3
 replace hF := hF.trNew hN3
 refine wpList_nil ?_
 refine fx_next ?_
 refine wp_seq ?_
 refine wp_seq ?_
 refine wp_region_lit ?_
 refine fx_val (v := .pointer (some ⟨b, 0, none⟩)) fr rfl rfl (by first | decide | simp) (x_move rfl (fr.ev rfl)) ?_
 clear fr a; intro a fr
 refine fx_call fr rfl rfl (by first | decide | simp) (x_call (vs := [.pointer (some ⟨b, 0, none⟩)]) rfl rfl ⟨(fr.ev rfl), trivial⟩ Try.func72 nm72 rfl) (hnone_c hB) ?_
 clear fr a
 rintro v w9 ⟨rfl, hw9⟩ a fr
 obtain rfl := hw9.symm
 refine wpList_nil ?_
 refine fx_next ?_
 refine fx_cond_f fr rfl ?_
 refine wp_skip ?_
 refine fx_next ?_
 refine wp_seq ?_
 refine wp_seq ?_
 refine wp_region_lit ?_
 refine fx_val (v := .pointer (some ⟨b, 0, none⟩)) fr rfl rfl (by first | decide | simp) (x_move rfl (fr.ev rfl)) ?_
 clear fr a; intro a fr
 refine fx_val (v := .pointer (some ⟨b, 0, none⟩)) fr rfl rfl (by first | decide | simp) (x_nilCheck rfl (fr.ev rfl)) ?_
 clear fr a; intro a fr
 refine fx_val (v := .pointer (some ⟨b, 1, none⟩)) fr rfl rfl (by first | decide | simp) (x_fieldAddr fo140_1 rfl (fr.ev rfl) rfl) ?_
 clear fr a; intro a fr
 refine fx_val (v := .map (some r)) fr rfl rfl (by first | decide | simp) (x_load1 pl138 rfl (fr.ev rfl) (hB.cell 1 rfl)) ?_
 clear fr a; intro a fr
 refine fx_call fr rfl rfl (by first | decide | simp) (x_call (vs := [.map (some r)]) rfl rfl ⟨(fr.ev rfl), trivial⟩ Try.func73 nm73 rfl) (vals_c r _) ?_
 clear fr a
 rintro v w11 ⟨bx8, rfl, Bx9, hb10, hN12⟩ a fr
 have ne_b_bx8 : NE b bx8 := NE.mk (Nat.lt_of_lt_of_le hB.lt hb10)
 have ap_FpE_bx8 : ¬ FpE bx8 := hM.apart hb10
 have ne_b1_bx8 : NE b1 bx8 := NE.mk (Nat.lt_of_lt_of_le B4.lt hb10)
 have g_bx8 := Nat.le_trans hF.size hb10
 replace hB := hB.new hN12
 replace hM := hM.new hN12
 replace B4 := B4.new hN12
 replace hF := hF.trNew hN12
 refine wpList_nil ?_
 refine fx_next ?_
 refine wp_block ?_
 have hsz9 := hF.size
 have hlt9 : ∀ g, FpE g → g < w11.heap.size := fun g hg => hM.lt hg
 have hno9 := hM.no
 have hlt8 := fun s hs => (hM.lt_ s hs).1
 refine fx_rangeK (S := fun ys => ∀ x : Sl L, x ∈ ys) (Sp := fun _ => True) (n0 := L.length) (e := (fun s : Sl L => .pointer (some ⟨s.1.b, 0, none⟩))) fr rfl (show 11 < 16 by decide) (enters_of Try.func92 nm92 rfl) (SI := fun k => k = b1) (vals_stops Bx9 hM.map (fun s hs => (hM.lt_ s hs).2) hM.borns) (fun pre W => (EntsAt W FpE r E L c ∧ Blk W b1 4 #[.bool false] ∧ New w W) ∧ ∀ x ∈ pre, (entOf E x.1.k).busy = false) (fun c9 pre W => c9 = .ret ∧ (EntsAt W FpE r E L c ∧ Blk W b1 4 #[.bool false] ∧ New w W) ∧ ∃ x : Sl L, (entOf E x.1.k).busy = true) (fun x a9 W => Fr (16, []) [(0, .pointer (some ⟨b, 0, none⟩)), (2, .pointer (some ⟨b1, 0, none⟩)), (4, .pointer (some ⟨b, 0, none⟩)), (5, .bool false), (6, .pointer (some ⟨b, 0, none⟩)), (7, .pointer (some ⟨b, 0, none⟩)), (8, .pointer (some ⟨b, 1, none⟩)), (9, .map (some r)), (10, .func (.func 92) #[] #[.pointer (some ⟨bx8, 0, none⟩)]), (11, .pointer (some ⟨x.1.b, 0, none⟩)), (3, .pointer (some ⟨x.1.b, 0, none⟩))] a9) ?_ ?_ ?_ ?_ ⟨⟨hM, B4, hF⟩, by simp⟩ ?_ ?_ ?_ ?_
 ·rintro pre W W9 ⟨⟨h1, h2, h3⟩, h4⟩ hT; exact ⟨⟨h1.only hT (fun g hg h => by have := hlt9 g hg; have := h.1; omega), h2.turn hT, h3.turn hT hF.size⟩, h4⟩
 ·rintro c9 pre W W9 ⟨rfl, ⟨h1, h2, h3⟩, h4⟩ hT; exact ⟨rfl, ⟨h1.only hT (fun g hg h => by have := hlt9 g hg; have := h.1; omega), h2.turn hT, h3.turn hT hF.size⟩, h4⟩
 ·exact fun _ _ _ _ _ h _ => h
 ·rintro pre W W9 ⟨⟨h1, h2, h3⟩, h4⟩ hN; exact ⟨⟨h1.new hN, h2.new hN, h3.trNew hN⟩, h4⟩
 ·skip
  rintro l pre x W K hi hK a fr
  refine fxr_region (by kernel_rfl) (by rintro ⟨_, _, h⟩; exact h) ?_
  refine fx_val (v := .pointer (some ⟨x.1.b, 0, none⟩)) fr rfl rfl (by first | decide | simp) (x_assign rfl (fr.ev rfl)) ?_
  clear fr a; intro a fr
  refine wpList_nil ?_
  exact hK _ _ (Only.refl _ _) (fr.sub ⟨rfl, rfl, rfl, rfl, rfl, rfl, rfl, rfl, rfl, rfl, rfl, trivial⟩)
 ·skip
  rintro lq pre ⟨⟨sk, sb, sA, scap, sborn⟩, hsx⟩ a W ⟨⟨hM, B4, hN9⟩, hall9⟩ fr hlen
  have cl9 := B4.cells
  dsimp only at fr
  obtain ⟨hE, hQ⟩ := hM.at_ _ hsx
  dsimp only at hE hQ
  have hFs : FpE sb := (hM.foot _).2 (.inr ⟨_, hsx, .inl rfl⟩)
  have ne_sb_b1 : NE sb b1 := fun e => ap_FpE_b1 (e ▸ hFs)
  have hF := Only.refl (fun k => k = b1) W
  refine wpIn_block ?_
  refine wpIn_seq ?_
  refine fxr_region (by kernel_rfl) (by rintro ⟨_, _, h⟩; exact h) ?_
  refine fx_val (v := .pointer (some ⟨sb, 0, none⟩)) fr rfl rfl (by first | decide | simp) (x_move rfl (fr.ev rfl)) ?_
  clear fr a; intro a fr
  refine fx_val (v := .pointer (some ⟨sb, 0, none⟩)) fr rfl rfl (by first | decide | simp) (x_nilCheck rfl (fr.ev rfl)) ?_
  clear fr a; intro a fr
  refine fx_val (v := .pointer (some ⟨sb, 5, none⟩)) fr rfl rfl (by first | decide | simp) (x_fieldAddr fo147_2 rfl (fr.ev rfl) rfl) ?_
  clear fr a; intro a fr
  refine fx_val (v := .bool ((entOf E sk).busy)) fr rfl rfl (by first | decide | simp) (x_load1 pl4 rfl (fr.ev rfl) (hE.cell 5 rfl)) ?_
  clear fr a; intro a fr
  refine wpList_nil ?_
  refine fx_next ?_
  refine fxr_cond fr rfl (fun hc13 => ?_) (fun hc13 => ?_)
  ·skip
   refine wpIn_seq ?_
   refine fxr_region (by kernel_rfl) (by rintro ⟨_, _, h⟩; exact h) ?_
   refine fx_store1 sz4 rfl rfl rfl (fr.ev rfl) rfl rfl B4 (show 0 < 1 by decide) (cs' := #[.bool false]) rfl fun w14 hO15 hBq => ?_
   replace hE := hE.only hO15 (by first | exact ne_sb_b1 | exact ne_b1_sb.symm | (show ¬ sb = b1; omega))
   replace hM := hM.only hO15 (ne1P ap_FpE_b1)
   replace hF := hF.loc hO15 (.inl rfl)
   replace B4 := hBq
   clear hBq
   refine wpList_nil ?_
   refine fx_next ?_
   refine wpIn_ret ?_
   refine fx_rb ?_
   exact ⟨⟨_, hF, fun k _ e => by subst e; exact ⟨rfl, cl9⟩⟩, rfl, ⟨hM, B4, hN9.trans hF (fun k hk e => by subst e; exact absurd hk (Nat.not_lt.2 g_b1))⟩, ⟨_, hsx⟩, hc13⟩
  ·skip
   refine wpIn_skip ?_
   refine fx_blk ?_
   exact ⟨⟨_, hF, fun k _ e => by subst e; exact ⟨rfl, cl9⟩⟩, ⟨hM, B4, hN9.trans hF (fun k hk e => by subst e; exact absurd hk (Nat.not_lt.2 g_b1))⟩, fun y hy => (List.mem_append.1 hy).elim (hall9 y) fun hy => by rw [List.mem_singleton.1 hy]; exact hc13⟩
 ·skip
  rintro D ys W1 hD hys ⟨⟨hM, B4, hF⟩, hall9⟩ hD_D a fr
  have g_D := Nat.le_trans (Nat.le_trans (show w.heap.size ≤ w11.heap.size from hsz9) hD) (Nat.le_refl _)
  have ne_b1_D := B4.mark hD_D
  refine fx_blk ?_
  refine fx_next ?_
  refine wp_seq ?_
  refine wp_region_lit ?_
  refine fx_store1 sz4 rfl rfl rfl (fr.ev rfl) rfl rfl B4 (show 0 < 1 by decide) (cs' := #[.bool true]) rfl fun w16 hO17 hBq => ?_
  replace hD_D := hD_D.only hO17 (by first | exact ne_D_b1 | exact ne_b1_D.symm | (show ¬ D = b1; omega))
  replace hF := hF.loc hO17 (.inr g_b1)
  replace B4 := hBq
  clear hBq
  refine wpList_nil ?_
  refine fx_next ?_
  refine wp_ret ?_
  refine fx_retM1 fr g_D hD_D [.cell 2 4] [.bool true] rfl rfl ?_
  intro wE hT
  replace B4 := B4.turn hT
  replace hF := hF.turn hT (Nat.le_refl _)
  refine ⟨⟨⟨_, rfl, x_loadV1 pl4 (B4.cell 0 rfl)⟩, trivial⟩, ?_⟩
  exact ⟨_, rfl, congrArg Value.bool (idle_all hno9 hlt8 fun s hs => hall9 ⟨s, hs⟩ (hys ⟨s, hs⟩)).symm, hF⟩
 ·skip
  rintro D c9 pre W1 hD _ ⟨rfl, ⟨hM, B4, hF⟩, hbz9⟩ hD_D a fr
  have g_D := Nat.le_trans (Nat.le_trans (show w.heap.size ≤ w11.heap.size from hsz9) hD) (Nat.le_refl _)
  have ne_b1_D := B4.mark hD_D
  refine wp_ret ?_
  refine fx_rb ?_
  refine fx_rt ?_
  refine fx_retM1 fr g_D hD_D [.cell 2 4] [.bool false] rfl rfl ?_
  intro wE hT
  replace B4 := B4.turn hT
  replace hF := hF.turn hT (Nat.le_refl _)
  refine ⟨⟨⟨_, rfl, x_loadV1 pl4 (B4.cell 0 rfl)⟩, trivial⟩, ?_⟩
  obtain ⟨x9, hx9⟩ := hbz9
  exact ⟨_, rfl, congrArg Value.bool (idle_not (hlt8 x9.1 x9.2) hx9).symm, hF⟩
end Go.Proofs.Ytflnlmibkbojcaa
namespace Go.Proofs.Ytflnlmibkbojcaa
open Go.RowKit
theorem idle_h {w : World} {Fp : Nat → Prop} {b : Nat} {h : HD} (H : HomeAt w Fp b h) : Calls Try.prog 41 #[.pointer (some ⟨b, 0, none⟩)] w (Ret fun v w' => v = .bool (idleB h.E) ∧ New w w') := by
  obtain ⟨bi, ig, cap, r, F, L, c, hB, hI, hM, hP, hEn⟩ := H
  exact idle_r hB hM
theorem entOf_rep (n k : Nat) : entOf (List.replicate n ent0) k = ent0 := by
  unfold entOf
  simp only [List.getD, List.getElem?_replicate]
  split <;> rfl
theorem ent0_ok (n : Int) : EOk n ent0 := ⟨by decide, (by intro h; cases h), by decide, (by intro m hm; cases hm), by decide, (by intro h; cases h)⟩
theorem imgnew_c (n : Nat) (w : World) (hn : okSize n = true) : Calls Try.prog 35 #[.int .i64 ((n : Nat) : Int)] w (Ret fun v w' => ∃ b g c, v = .tuple #[.pointer (some ⟨b, 0, none⟩), .int .i64 0] ∧ Img 0 w' b g c (List.replicate n 0) ∧ w.heap.size ≤ b ∧ w.heap.size ≤ g ∧ NE b g ∧ New w w') :=
  (im_new_yes n w hn).mono fun _ _ ⟨b, g, c, h1, h2, h3⟩ => ⟨_, h1, b, g, c, rfl, h2.mono (Nat.zero_le _), h2.hb, h2.hg, h2.ne, h3⟩
end Go.Proofs.Ytflnlmibkbojcaa
namespace Go.Proofs.Ytflnlmibkbojcaa
open Go.RowKit
theorem lineB_set (bs : List UInt8) (n k : Int) (b : B16) (h0 : 0 ≤ n) (h1 : 0 ≤ k) (hk : k.toNat < bs.length / 16) (h : k ≠ n) : lineB (setLn bs n b) k = lineB bs k := by
  unfold lineB setLn
  apply Subtype.ext
  show (lineSpec (setSpec bs n.toNat (b8 b)) k.toNat).map _ = (lineSpec bs k.toNat).map _
  rw [lineSpec_set _ _ _ _ (b8_length b) hk, if_neg (by omega)]
theorem lineB_same (bs : List UInt8) (n : Int) (b : B16) (_h0 : 0 ≤ n) (hk : n.toNat < bs.length / 16) : lineB (setLn bs n b) n = b := by
  unfold lineB setLn
  apply Subtype.ext
  show (lineSpec (setSpec bs n.toNat (b8 b)) n.toNat).map _ = b.1
  rw [lineSpec_set _ _ _ _ (b8_length b) hk, if_pos rfl]
  unfold b8
  rw [List.map_map]
  conv => rhs; rw [← List.map_id b.1]
  apply List.map_congr_left
  intro x hx
  have := b.2.2 x hx
  simp
  omega
structure EI (n : Int) (d : Ent) : Prop where
  ok : EOk n d
  apart : 0 ≤ d.o → d.sh = sh0
  idle : d.busy = false → d.waits = 0 ∧ d.told = false
theorem nb {b : Bool} {P : Prop} (h : b = true) (h' : b = false) : P := by rw [h] at h'; cases h'
theorem pO : -1 ≤ (-1 : Int) ∧ (-1 : Int) < 4 := by decide
theorem pW0 : 0 ≤ (0 : Int) ∧ (0 : Int) ≤ 4 := by decide
theorem pW1 : 0 ≤ (1 : Int) ∧ (1 : Int) ≤ 4 := by decide
theorem pN : ¬ 0 ≤ (-1 : Int) := by decide
theorem EI.ent0 (n : Int) : EI n ent0 := ⟨ent0_ok n, fun h => absurd h (by decide), fun _ => ⟨rfl, rfl⟩⟩
structure ROk (n : Int) (m : Msg) : Prop where
  kind : 1 ≤ m.kind ∧ m.kind ≤ 3
  src : 0 ≤ m.src ∧ m.src < 4
  line : m.line = n
theorem EOk.rest {n : Int} {d : Ent} (h : EOk n d) : ∀ m ∈ d.q, ROk n m := fun m hm => by
  obtain ⟨a, b, c, e, f⟩ := h.q m hm
  exact ⟨⟨a, b⟩, ⟨c, e⟩, f⟩
theorem leave_ok {n : Int} {d : Ent} {r : Int} (h : EI n d) : EI n (leaveF d r) := by
  unfold leaveF
  split
  · exact ⟨⟨h.ok.asks, h.ok.told, pO, h.ok.q, h.ok.waits, h.ok.kind⟩, fun h' => absurd h' pN, h.idle⟩
  · exact h
theorem begin_ei {n : Int} {d : Ent} {bs : List UInt8} {m : Msg} (h : EI n d) (_hb : d.busy = false) (hm : ROk n m) : EI n (beginF bs d m).1 := by
  have hl := leave_ok (r := m.src) h
  by_cases h3 : m.kind = 3
  · rw [begin_put h3]; exact hl
  have hk12 : m.kind = 1 ∨ m.kind = 2 := by have := hm.kind; omega
  have own : EI n (busyF (ownF (leaveF d m.src) m.src) m 0 true) := ⟨⟨hm.src, fun _ => rfl, (by show -1 ≤ m.src ∧ m.src < 4; have := hm.src; omega), hl.ok.q, pW0, fun _ => hk12⟩, fun _ => rfl, fun h => (by cases h)⟩
  by_cases h0 : 0 ≤ (leaveF d m.src).o
  · have : EI n (busyF (leaveF d m.src) m 1 false) := ⟨⟨hm.src, fun h => (by cases h), hl.ok.own, hl.ok.q, pW1, fun _ => hk12⟩, hl.apart, fun h => (by cases h)⟩
    rcases hk12 with hk | hk
    · rw [begin_s1 hk h0]; exact this
    · rw [begin_m1 hk h0]; exact this
  rcases hk12 with hk | hk
  · by_cases h1 : 0 < (othersF (leaveF d m.src).sh m.src).length
    · rw [begin_s2 hk h0 h1]
      exact ⟨⟨hm.src, fun _ => rfl, hl.ok.own, hl.ok.q, pW0, fun _ => .inl hk⟩, fun h => absurd h h0, fun h => (by cases h)⟩
    · rw [begin_s3 hk h0 h1]; exact own
  · by_cases h1 : (othersF (leaveF d m.src).sh m.src).length = 0
    · rw [begin_m3 hk h0 h1]; exact own
    · rw [begin_m2 hk h0 h1]
      have := othK_len (leaveF d m.src).sh m.src 4
      exact ⟨⟨hm.src, fun h => (by cases h), hl.ok.own, hl.ok.q, (by show 0 ≤ (((othersF (leaveF d m.src).sh m.src).length : Nat) : Int) ∧ (((othersF (leaveF d m.src).sh m.src).length : Nat) : Int) ≤ 4; unfold othersF; omega), fun _ => .inr hk⟩, fun h => absurd h h0, fun h => (by cases h)⟩
theorem drain_cons {m : Msg} {r : List Msg} {bs : List UInt8} {d : Ent} : drainF (m :: r) bs d = if d.busy then ({ d with q := m :: r }, bs, []) else ((drainF r (beginF bs { d with q := r } m).2.1 (beginF bs { d with q := r } m).1).1, (drainF r (beginF bs { d with q := r } m).2.1 (beginF bs { d with q := r } m).1).2.1, (beginF bs { d with q := r } m).2.2 ++ (drainF r (beginF bs { d with q := r } m).2.1 (beginF bs { d with q := r } m).1).2.2) := by
  rw [drainF]
theorem EI.queue {n : Int} {d : Ent} (h : EI n d) (q : List Msg) (hq : ∀ m ∈ q, ROk n m) : EI n { d with q := q } :=
  ⟨⟨h.ok.asks, h.ok.told, h.ok.own, fun m hm => (⟨(hq m hm).kind.1, (hq m hm).kind.2, (hq m hm).src.1, (hq m hm).src.2, (hq m hm).line⟩), h.ok.waits, h.ok.kind⟩, h.apart, h.idle⟩
abbrev NoQ (d : Ent) : Prop := d.busy = false → d.q = []
theorem drain_ei {n : Int} : ∀ (q : List Msg) (bs : List UInt8) (d : Ent), EI n d → (∀ m ∈ q, ROk n m) → EI n (drainF q bs d).1 ∧ NoQ (drainF q bs d).1 ∧ (drainF q bs d).1.q.length ≤ q.length
  | [], bs, d, h, hq => ⟨h.queue [] hq, fun _ => rfl, Nat.le_refl _⟩
  | m :: r, bs, d, h, hq => by
    have hr : ∀ x ∈ r, ROk n x := fun x hx => hq x (List.mem_cons_of_mem _ hx)
    rw [drain_cons]
    cases hb : d.busy with
    | true =>
      rw [if_pos rfl]
      refine ⟨?_, fun h' => ?_, Nat.le_refl _⟩
      · have := h.queue (m :: r) hq
        rwa [hb] at this
      · cases h'
    | false =>
      rw [if_neg (by decide)]
      have hb1 := begin_ei (bs := bs) (m := m) (h.queue r hr) (show ({ d with q := r } : Ent).busy = false from hb) (hq m (List.mem_cons_self ..))
      rw [hb] at hb1
      obtain ⟨i1, i2, i3⟩ := drain_ei r (beginF bs { o := d.o, sh := d.sh, busy := false, asks := d.asks, kind := d.kind, waits := d.waits, told := d.told, q := r } m).2.1 _ hb1 hr
      exact ⟨i1, i2, by simp only [List.length_cons]; omega⟩
theorem other_ei {n : Int} {d : Ent} {bs : List UInt8} {m : Msg} (h : EI n d) (hs : strayF d m = false) (hk : m.kind = 11 ∨ m.kind = 12 ∨ m.kind = 13) : EI n (otherF bs d m).1 ∧ NoQ (otherF bs d m).1 ∧ (otherF bs d m).1.q.length ≤ d.q.length := by
  have hbusy : d.busy = true := by
    unfold strayF at hs
    cases hb : d.busy
    · rw [hb] at hs; simp at hs
    · rfl
  rcases hk with hk | hk | hk
  · by_cases h1 : d.kind = 1
    · rw [other_b1 hk h1]
      exact ⟨⟨⟨h.ok.asks, fun _ => rfl, pO, h.ok.q, pW0, h.ok.kind⟩, fun h' => absurd h' pN, fun h' => nb hbusy h'⟩, fun h' => nb hbusy h', Nat.le_refl _⟩
    · rw [other_b2 hk h1]
      exact ⟨⟨⟨h.ok.asks, fun _ => rfl, (by show -1 ≤ d.asks ∧ d.asks < 4; have := h.ok.asks; omega), h.ok.q, pW0, h.ok.kind⟩, fun _ => rfl, fun h' => nb hbusy h'⟩, fun h' => nb hbusy h', Nat.le_refl _⟩
  · have hw := h.ok.waits
    simp [strayF, hk] at hs
    obtain ⟨⟨-, h1⟩, ⟨h2, h3⟩, h4⟩ := hs
    by_cases h1 : d.waits = 1
    · rw [other_a1 hk h1]
      exact ⟨⟨⟨h.ok.asks, fun _ => rfl, (by show -1 ≤ d.asks ∧ d.asks < 4; have := h.ok.asks; omega), h.ok.q, pW0, h.ok.kind⟩, fun _ => rfl, fun h' => nb hbusy h'⟩, fun h' => nb hbusy h', Nat.le_refl _⟩
    · rw [other_a2 hk h1]
      exact ⟨⟨⟨h.ok.asks, fun ht => (by have := h.ok.told ht; omega), h.ok.own, h.ok.q, (by show 0 ≤ d.waits - 1 ∧ d.waits - 1 ≤ 4; omega), h.ok.kind⟩, fun h' => absurd h' (by show ¬ 0 ≤ d.o; omega), fun h' => nb hbusy h'⟩, fun h' => nb hbusy h', Nat.le_refl _⟩
  · rw [other_d hk]
    have h' : EI n { d with busy := false, asks := 0, kind := 0, waits := 0, told := false } := ⟨⟨by show (0 : Int) ≤ 0 ∧ (0 : Int) < 4; decide, fun _ => rfl, h.ok.own, h.ok.q, (by show (0 : Int) ≤ 0 ∧ (0 : Int) ≤ 4; decide), fun h => (by cases h)⟩, h.apart, fun _ => ⟨rfl, rfl⟩⟩
    exact drain_ei d.q bs _ h' h.ok.rest
theorem take_cases (h : HD) (m : Msg) : (∃ e, takeH h m = (h, [], e) ∧ e ≠ 0) ∨
    (chk m = 0 ∧ m.dst = 4 ∧ (0 ≤ m.src ∧ m.src < 4) ∧ m.line.toNat < h.E.length ∧ m.line = ((m.line.toNat : Nat) : Int) ∧
      ∃ x : Ent × List UInt8 × List Msg, takeH h m = (⟨x.2.1, h.E.set m.line.toNat x.1⟩, x.2.2, 0) ∧
        ((1 ≤ m.kind ∧ m.kind ≤ 3 ∧ (entOf h.E m.line.toNat).busy = true ∧ x = ({ entOf h.E m.line.toNat with q := (entOf h.E m.line.toNat).q ++ [m] }, h.bs, [])) ∨
         (1 ≤ m.kind ∧ m.kind ≤ 3 ∧ (entOf h.E m.line.toNat).busy = false ∧ x = beginF h.bs (entOf h.E m.line.toNat) m) ∨
         ((m.kind = 11 ∨ m.kind = 12 ∨ m.kind = 13) ∧ strayF (entOf h.E m.line.toNat) m = false ∧ x = otherF h.bs (entOf h.E m.line.toNat) m))) := by
  have hmn := m.hn
  by_cases h0 : chk m ≠ 0 ∨ m.dst ≠ 4
  · exact .inl ⟨2, by unfold takeH; rw [if_pos h0], by decide⟩
  by_cases h3 : (h.E.length : Int) ≤ m.line
  · exact .inl ⟨4, by unfold takeH; rw [if_neg h0, if_pos h3], by decide⟩
  have h1 : chk m = 0 := Decidable.not_not.1 fun h => h0 (.inl h)
  have h2 : m.dst = 4 := Decidable.not_not.1 fun h => h0 (.inr h)
  obtain ⟨hhome, hsrc⟩ := chk_home h1 h2
  unfold homeK at hhome
  simp only [Bool.or_eq_true, decide_eq_true_eq] at hhome
  have hT : takeH h m = if m.kind ≤ 3 then (if (entOf h.E m.line.toNat).busy then (⟨h.bs, h.E.set m.line.toNat { entOf h.E m.line.toNat with q := (entOf h.E m.line.toNat).q ++ [m] }⟩, [], 0) else (⟨(beginF h.bs (entOf h.E m.line.toNat) m).2.1, h.E.set m.line.toNat (beginF h.bs (entOf h.E m.line.toNat) m).1⟩, (beginF h.bs (entOf h.E m.line.toNat) m).2.2, 0)) else if strayF (entOf h.E m.line.toNat) m then (h, [], 220) else (⟨(otherF h.bs (entOf h.E m.line.toNat) m).2.1, h.E.set m.line.toNat (otherF h.bs (entOf h.E m.line.toNat) m).1⟩, (otherF h.bs (entOf h.E m.line.toNat) m).2.2, 0) := by
    unfold takeH
    rw [if_neg h0, if_neg h3]
    rfl
  by_cases hk : m.kind ≤ 3
  · rw [hT, if_pos hk]
    refine .inr ⟨h1, h2, hsrc, by omega, by omega, ?_⟩
    cases hb : (entOf h.E m.line.toNat).busy with
    | true => exact ⟨({ entOf h.E m.line.toNat with q := (entOf h.E m.line.toNat).q ++ [m] }, h.bs, []), by rw [if_pos rfl], .inl ⟨by omega, hk, rfl, rfl⟩⟩
    | false => exact ⟨beginF h.bs (entOf h.E m.line.toNat) m, by rw [if_neg (by decide)], .inr (.inl ⟨by omega, hk, rfl, rfl⟩)⟩
  · rw [hT, if_neg hk]
    cases hs : strayF (entOf h.E m.line.toNat) m with
    | true => exact .inl ⟨220, by rw [if_pos rfl], by decide⟩
    | false => exact .inr ⟨h1, h2, hsrc, by omega, by omega, otherF h.bs (entOf h.E m.line.toNat) m, by rw [if_neg (by decide)], .inr (.inr ⟨by omega, rfl, rfl⟩)⟩
def HI (k : Nat) (h : HD) : Prop := h.E.length = h.bs.length / 16 ∧ ∀ n, n < h.E.length → EI (n : Int) (entOf h.E n) ∧ NoQ (entOf h.E n) ∧ (entOf h.E n).q.length ≤ k
theorem HI.home0 (bs : List UInt8) : HI 0 (home0 bs) := ⟨by simp [Go.Proofs.Ytflnlmibkbojcaa.home0], fun n _ => by
  rw [show entOf (Go.Proofs.Ytflnlmibkbojcaa.home0 bs).E n = Go.Proofs.Ytflnlmibkbojcaa.ent0 from entOf_rep _ _]
  exact ⟨EI.ent0 _, fun _ => rfl, Nat.le_refl _⟩⟩
theorem HI.ok {k : Nat} {h : HD} (hi : HI k h) (hk : k ≤ 100000) : HOk h := fun n hn => ⟨(hi.2 n hn).1.ok, Nat.le_trans (hi.2 n hn).2.2 hk⟩
theorem HI.mono {k k' : Nat} {h : HD} (hi : HI k h) (hk : k ≤ k') : HI k' h := ⟨hi.1, fun n hn => ⟨(hi.2 n hn).1, (hi.2 n hn).2.1, Nat.le_trans (hi.2 n hn).2.2 hk⟩⟩
theorem HI.put {k k' : Nat} {h : HD} (hi : HI k h) (hk : k ≤ k') {n : Nat} (hn : n < h.E.length) {x : Ent × List UInt8 × List Msg} (hl : x.2.1.length = h.bs.length) (he : EI (n : Int) x.1 ∧ NoQ x.1 ∧ x.1.q.length ≤ k') : HI k' ⟨x.2.1, h.E.set n x.1⟩ :=
  ⟨by show (h.E.set n x.1).length = x.2.1.length / 16; rw [List.length_set, hl, hi.1], fun i hI => by
    rw [List.length_set] at hI
    show EI (i : Int) (entOf (h.E.set n x.1) i) ∧ NoQ (entOf (h.E.set n x.1) i) ∧ (entOf (h.E.set n x.1) i).q.length ≤ k'
    rw [entOf_set hn]
    split
    · rename_i h; subst h; exact he
    · exact ⟨(hi.2 i hI).1, (hi.2 i hI).2.1, Nat.le_trans (hi.2 i hI).2.2 hk⟩⟩
theorem take_ei {k : Nat} {h : HD} {m : Msg} (hi : HI k h) (hsrc : 0 ≤ m.src ∧ m.src < 4) (hn : m.line.toNat < h.E.length) (hmn : m.line = ((m.line.toNat : Nat) : Int)) {x : Ent × List UInt8 × List Msg} (hx : (1 ≤ m.kind ∧ m.kind ≤ 3 ∧ (entOf h.E m.line.toNat).busy = true ∧ x = ({ entOf h.E m.line.toNat with q := (entOf h.E m.line.toNat).q ++ [m] }, h.bs, [])) ∨
         (1 ≤ m.kind ∧ m.kind ≤ 3 ∧ (entOf h.E m.line.toNat).busy = false ∧ x = beginF h.bs (entOf h.E m.line.toNat) m) ∨
         ((m.kind = 11 ∨ m.kind = 12 ∨ m.kind = 13) ∧ strayF (entOf h.E m.line.toNat) m = false ∧ x = otherF h.bs (entOf h.E m.line.toNat) m)) : EI (m.line.toNat : Int) x.1 ∧ NoQ x.1 ∧ x.1.q.length ≤ k + 1 ∧ x.2.1.length = h.bs.length := by
  obtain ⟨e1, e2, e3⟩ := hi.2 _ hn
  rcases hx with ⟨a, b, c, rfl⟩ | ⟨a, b, c, rfl⟩ | ⟨a, b, rfl⟩
  · refine ⟨e1.queue _ fun y hy => ?_, fun h' => ?_, ?_, rfl⟩
    · rw [List.mem_append] at hy
      rcases hy with hy | hy
      · exact e1.ok.rest y hy
      · simp at hy; subst hy; exact ⟨⟨a, b⟩, hsrc, hmn⟩
    · rw [show (entOf h.E m.line.toNat).busy = false from h'] at c; cases c
    · show ((entOf h.E m.line.toNat).q ++ [m]).length ≤ _
      simp; omega
  · refine ⟨begin_ei e1 c ⟨⟨a, b⟩, hsrc, hmn⟩, fun h' => ?_, ?_, begin_bs⟩
    · rw [begin_q]; exact e2 c
    · rw [begin_q]; omega
  · obtain ⟨f1, f2, f3⟩ := other_ei (bs := h.bs) e1 b a
    exact ⟨f1, f2, by omega, other_bs⟩
theorem HI.take {k : Nat} {h : HD} (hi : HI k h) (m : Msg) : HI (k + 1) (takeH h m).1 := by
  rcases take_cases h m with ⟨e, he, _⟩ | ⟨_, _, hsrc, hn, hmn, x, hx, hc⟩
  · rw [he]; exact hi.mono (Nat.le_succ _)
  · rw [hx]
    obtain ⟨f1, f2, f3, f4⟩ := take_ei hi hsrc hn hmn hc
    exact hi.put (Nat.le_succ _) hn f4 ⟨f1, f2, f3⟩
theorem take_len (h : HD) (m : Msg) : (takeH h m).1.E.length = h.E.length := by
  rcases take_cases h m with ⟨e, he, _⟩ | ⟨_, _, hsrc, hn, hmn, x, hx, hc⟩
  · rw [he]
  · rw [hx]; exact List.length_set
theorem begin_other {n k : Int} {d : Ent} {bs : List UInt8} {m : Msg} (hm : m.line = n) (h0 : 0 ≤ n) (h1 : 0 ≤ k) (hk : k.toNat < bs.length / 16) (h : k ≠ n) : lineB (beginF bs d m).2.1 k = lineB bs k := by
  unfold beginF; dsimp only
  split
  · show lineB (if d.o = m.src then setLn bs m.line m.bs else bs) k = _
    split
    · rw [hm]; exact lineB_set _ _ _ _ h0 h1 hk h
    · rfl
  · split
    · rfl
    · split
      · split <;> rfl
      · split <;> rfl
theorem drain_other {n k : Int} (h0 : 0 ≤ n) (h1 : 0 ≤ k) (h : k ≠ n) : ∀ (q : List Msg) (bs : List UInt8) (d : Ent), k.toNat < bs.length / 16 → (∀ m ∈ q, ROk n m) → lineB (drainF q bs d).2.1 k = lineB bs k
  | [], bs, d, hk, hq => rfl
  | m :: r, bs, d, hk, hq => by
    rw [drain_cons]
    split
    · rfl
    · show lineB (drainF r (beginF bs { d with q := r } m).2.1 (beginF bs { d with q := r } m).1).2.1 k = _
      rw [drain_other h0 h1 h r _ _ (by rw [begin_bs]; exact hk) fun x hx => hq x (List.mem_cons_of_mem _ hx), begin_other (hq m (List.mem_cons_self ..)).line h0 h1 hk h]
theorem other_other {n k : Int} {d : Ent} {bs : List UInt8} {m : Msg} (hm : m.line = n) (hq : ∀ m ∈ d.q, ROk n m) (h0 : 0 ≤ n) (h1 : 0 ≤ k) (hk : k.toNat < bs.length / 16) (h : k ≠ n) : lineB (otherF bs d m).2.1 k = lineB bs k := by
  unfold otherF
  split
  · exact drain_other h0 h1 h _ _ _ hk hq
  · split
    · dsimp only
      split <;> (rw [hm]; exact lineB_set _ _ _ _ h0 h1 hk h)
    · split <;> rfl
theorem take_other {j : Nat} {h : HD} (hi : HI j h) {m : Msg} {k : Int} (h0 : 0 ≤ k) (hk : k.toNat < h.E.length) (hne : m.line ≠ k) : entOf (takeH h m).1.E k.toNat = entOf h.E k.toNat ∧ lineB (takeH h m).1.bs k = lineB h.bs k := by
  rcases take_cases h m with ⟨e, he, _⟩ | ⟨_, _, hsrc, hn, hmn, x, hx, hc⟩
  · rw [he]; exact ⟨rfl, rfl⟩
  · rw [hx]
    have hmn' := m.hn
    obtain ⟨e1, e2, e3⟩ := hi.2 _ hn
    have hkb : k.toNat < h.bs.length / 16 := by rw [← hi.1]; exact hk
    refine ⟨?_, ?_⟩
    · show entOf (h.E.set m.line.toNat x.1) k.toNat = _
      rw [entOf_set hn, if_neg (by omega)]
    · rcases hc with ⟨a, b, c, rfl⟩ | ⟨a, b, c, rfl⟩ | ⟨a, b, rfl⟩
      · rfl
      · exact begin_other rfl hmn'.1 h0 hkb (Ne.symm hne)
      · exact other_other rfl (fun y hy => by have := e1.ok.rest y hy; rwa [← hmn] at this) hmn'.1 h0 hkb (Ne.symm hne)
end Go.Proofs.Ytflnlmibkbojcaa
