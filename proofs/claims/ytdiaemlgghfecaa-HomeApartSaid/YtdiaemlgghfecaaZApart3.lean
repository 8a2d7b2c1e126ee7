/-
  Part 3 of what the claim stands on: walks through the code, plain laws.
-/
import Derived.Test.YtdiaemlgghfecaaZApart2
namespace Go.Proofs.Ytdiaemlgghfecaa
open Go.RowKit
set_option maxRecDepth 100000 in
set_option maxHeartbeats 4000000 in
theorem begin_1 {w : World} {bw be bh bi ig cap r : Nat} {d : Ent} {Q : Option Addr} {qc : Nat} {A : Option Addr} {ac : Nat} {out : List Msg} {bs : List UInt8} (m : Msg) (R : WorkR w bw be bh bi ig cap r m.line d Q qc A ac out bs) (hlen : out.length + 8 ≤ 1000000) (hsrc : 0 ≤ m.src ∧ m.src < 4) (hk : m.kind = 1) : Calls Try.prog 48 #[.pointer (some ⟨bw, 0, none⟩), .agg (msgE.arr m)] w (Ret fun v w' => v = .tuple #[] ∧ WRet w w' bw be bh bi ig cap r m.line Q qc A out (beginF bs d m).1 (beginF bs d m).2.1 (beginF bs d m).2.2) := by
  obtain ⟨hW, hE, hH, hI, hQ, hO, hS⟩ := R
  have ne_bw_be := hS.ne_bw_be
  have ne_bw_bh := hS.ne_bw_bh
  have ne_bw_bi := hS.ne_bw_bi
  have ne_bw_ig := hS.ne_bw_ig
  have ne_be_bh := hS.ne_be_bh
  have ne_be_bi := hS.ne_be_bi
  have ne_be_ig := hS.ne_be_ig
  have ne_bh_bi := hS.ne_bh_bi
  have ne_bh_ig := hS.ne_bh_ig
  have ne_bi_ig := hS.ne_bi_ig
  have ap_Q_bw := hS.ap_Q_bw
  have ap_Q_be := hS.ap_Q_be
  have ap_Q_bh := hS.ap_Q_bh
  have ap_Q_bi := hS.ap_Q_bi
  have ap_Q_ig := hS.ap_Q_ig
  have ap_A_bw := hS.ap_A_bw
  have ap_A_be := hS.ap_A_be
  have ap_A_bh := hS.ap_A_bh
  have ap_A_bi := hS.ap_A_bi
  have ap_A_ig := hS.ap_A_ig
  have ap2_Q_A := hS.ap2_Q_A
  have gA_A : ∀ g, inA A g → (g = bw ∨ g = be ∨ g = ig ∨ inA A g) ∨ w.heap.size ≤ g := fun g hg => .inl (.inr (.inr (.inr hg)))
  have hmn := m.hn
  have hF := Only.refl (fun k => k = bw ∨ k = be ∨ k = ig ∨ inA A k) w
  refine fx_enter Try.func48 rfl (N := (17, [])) (T := [(0, .pointer (some ⟨bw, 0, none⟩)), (1, .agg (msgE.arr m))]) rfl (show 2 ≤ 17 by decide) ⟨rfl, rfl, trivial⟩ fun a fr => ?_
  refine wp_seq ?_
  refine wp_region_lit ?_  -- region 0
  refine fx_new fr rfl rfl (by first | decide | simp) (x_box (cs := msgE.arr m) rfl (fr.ev rfl) rfl) ?_
  clear fr a
  intro b1 w2 hN3 B4 hb5 a fr
  have ne_bw_b1 : NE bw b1 := NE.mk (Nat.lt_of_lt_of_le hW.lt hb5)
  have ne_be_b1 : NE be b1 := NE.mk (Nat.lt_of_lt_of_le hE.lt hb5)
  have ne_bh_b1 : NE bh b1 := NE.mk (Nat.lt_of_lt_of_le hH.lt hb5)
  have ne_bi_b1 : NE bi b1 := NE.mk (Nat.lt_of_lt_of_le hI.lt.1 hb5)
  have ne_ig_b1 : NE ig b1 := NE.mk (Nat.lt_of_lt_of_le hI.lt.2 hb5)
  have ap_Q_b1 : Apart Q b1 := hQ.apart hb5
  have ap_A_b1 : Apart A b1 := hO.apart hb5
  have g_b1 := Nat.le_trans hF.size hb5
  replace hW := hW.new hN3
  replace hE := hE.new hN3
  replace hH := hH.new hN3
  replace hI := hI.new hN3
  replace hQ := hQ.new hN3
  replace hO := hO.new hN3
  replace hF := hF.trNew hN3
  refine wpList_nil ?_
  refine fx_next ?_
  refine wp_region_lit ?_  -- region 1
  refine fx_makeMap fr rfl rfl rfl (by first | decide | simp) ?_
  clear fr a
  intro r6 w7 hN8 M9 hb10 a fr
  have ne_bw_r6 : NE bw r6 := NE.mk (Nat.lt_of_lt_of_le hW.lt hb10)
  have ne_be_r6 : NE be r6 := NE.mk (Nat.lt_of_lt_of_le hE.lt hb10)
  have ne_bh_r6 : NE bh r6 := NE.mk (Nat.lt_of_lt_of_le hH.lt hb10)
  have ne_bi_r6 : NE bi r6 := NE.mk (Nat.lt_of_lt_of_le hI.lt.1 hb10)
  have ne_ig_r6 : NE ig r6 := NE.mk (Nat.lt_of_lt_of_le hI.lt.2 hb10)
  have ap_Q_r6 : Apart Q r6 := hQ.apart hb10
  have ap_A_r6 : Apart A r6 := hO.apart hb10
  have ne_b1_r6 : NE b1 r6 := NE.mk (Nat.lt_of_lt_of_le B4.lt hb10)
  have g_r6 := Nat.le_trans hF.size hb10
  replace hW := hW.new hN8
  replace hE := hE.new hN8
  replace hH := hH.new hN8
  replace hI := hI.new hN8
  replace hQ := hQ.new hN8
  replace hO := hO.new hN8
  replace B4 := B4.new hN8
  replace hF := hF.trNew hN8
  refine fx_val (v := .pointer (some ⟨bw, 0, none⟩)) fr rfl rfl (by first | decide | simp) (x_move rfl (fr.ev rfl)) ?_
  clear fr a; intro a fr
  refine fx_val (v := .func (.func 60) #[.pointer (some ⟨bw, 0, none⟩)] #[]) fr rfl rfl (by first | decide | simp) (x_makeBound rfl (fr.ev rfl)) ?_
  clear fr a; intro a fr
  refine fx_insert (es' := #[⟨.int .i64 1, .func (.func 60) #[.pointer (some ⟨bw, 0, none⟩)] #[], 0⟩]) Try.underlying84 Try.underlying33 rfl rfl rfl (fr.ev rfl) rfl (fr.ev rfl) M9 rfl rfl fun w11 hO12 hBq => ?_
  replace hW := hW.only hO12 (by first | exact ne_bw_r6 | exact ne_r6_bw.symm | (show ¬ bw = r6; omega))
  replace hE := hE.only hO12 (by first | exact ne_be_r6 | exact ne_r6_be.symm | (show ¬ be = r6; omega))
  replace hH := hH.only hO12 (by first | exact ne_bh_r6 | exact ne_r6_bh.symm | (show ¬ bh = r6; omega))
  replace hI := hI.only hO12 (by first | exact ne_bi_r6 | exact ne_r6_bi.symm | (show ¬ bi = r6; omega)) (by first | exact ne_ig_r6 | exact ne_r6_ig.symm | (show ¬ ig = r6; omega))
  replace hQ := hQ.only hO12 (Apart.ne1 ap_Q_r6)
  replace hO := hO.only hO12 (Apart.ne1 ap_A_r6)
  replace B4 := B4.only hO12 (by first | exact ne_b1_r6 | exact ne_r6_b1.symm | (show ¬ b1 = r6; omega))
  replace hF := hF.loc hO12 (.inr g_r6)
  replace M9 := hBq
  clear hBq
  refine fx_val (v := .pointer (some ⟨bw, 0, none⟩)) fr rfl rfl (by first | decide | simp) (x_move rfl (fr.ev rfl)) ?_
  clear fr a; intro a fr
  refine fx_val (v := .func (.func 61) #[.pointer (some ⟨bw, 0, none⟩)] #[]) fr rfl rfl (by first | decide | simp) (x_makeBound rfl (fr.ev rfl)) ?_
  clear fr a; intro a fr
  refine fx_insert (es' := #[⟨.int .i64 1, .func (.func 60) #[.pointer (some ⟨bw, 0, none⟩)] #[], 0⟩, ⟨.int .i64 2, .func (.func 61) #[.pointer (some ⟨bw, 0, none⟩)] #[], 1⟩]) Try.underlying84 Try.underlying33 rfl rfl rfl (fr.ev rfl) rfl (fr.ev rfl) M9 rfl rfl fun w13 hO14 hBq => ?_
  replace hW := hW.only hO14 (by first | exact ne_bw_r6 | exact ne_r6_bw.symm | (show ¬ bw = r6; omega))
  replace hE := hE.only hO14 (by first | exact ne_be_r6 | exact ne_r6_be.symm | (show ¬ be = r6; omega))
  replace hH := hH.only hO14 (by first | exact ne_bh_r6 | exact ne_r6_bh.symm | (show ¬ bh = r6; omega))
  replace hI := hI.only hO14 (by first | exact ne_bi_r6 | exact ne_r6_bi.symm | (show ¬ bi = r6; omega)) (by first | exact ne_ig_r6 | exact ne_r6_ig.symm | (show ¬ ig = r6; omega))
  replace hQ := hQ.only hO14 (Apart.ne1 ap_Q_r6)
  replace hO := hO.only hO14 (Apart.ne1 ap_A_r6)
  replace B4 := B4.only hO14 (by first | exact ne_b1_r6 | exact ne_r6_b1.symm | (show ¬ b1 = r6; omega))
  replace hF := hF.loc hO14 (.inr g_r6)
  replace M9 := hBq
  clear hBq
  refine fx_val (v := .pointer (some ⟨bw, 0, none⟩)) fr rfl rfl (by first | decide | simp) (x_move rfl (fr.ev rfl)) ?_
  clear fr a; intro a fr
  refine fx_val (v := .func (.func 62) #[.pointer (some ⟨bw, 0, none⟩)] #[]) fr rfl rfl (by first | decide | simp) (x_makeBound rfl (fr.ev rfl)) ?_
  clear fr a; intro a fr
  refine fx_insert (es' := #[⟨.int .i64 1, .func (.func 60) #[.pointer (some ⟨bw, 0, none⟩)] #[], 0⟩, ⟨.int .i64 2, .func (.func 61) #[.pointer (some ⟨bw, 0, none⟩)] #[], 1⟩, ⟨.int .i64 3, .func (.func 62) #[.pointer (some ⟨bw, 0, none⟩)] #[], 2⟩]) Try.underlying84 Try.underlying33 rfl rfl rfl (fr.ev rfl) rfl (fr.ev rfl) M9 rfl rfl fun w15 hO16 hBq => ?_
  replace hW := hW.only hO16 (by first | exact ne_bw_r6 | exact ne_r6_bw.symm | (show ¬ bw = r6; omega))
  replace hE := hE.only hO16 (by first | exact ne_be_r6 | exact ne_r6_be.symm | (show ¬ be = r6; omega))
  replace hH := hH.only hO16 (by first | exact ne_bh_r6 | exact ne_r6_bh.symm | (show ¬ bh = r6; omega))
  replace hI := hI.only hO16 (by first | exact ne_bi_r6 | exact ne_r6_bi.symm | (show ¬ bi = r6; omega)) (by first | exact ne_ig_r6 | exact ne_r6_ig.symm | (show ¬ ig = r6; omega))
  replace hQ := hQ.only hO16 (Apart.ne1 ap_Q_r6)
  replace hO := hO.only hO16 (Apart.ne1 ap_A_r6)
  replace B4 := B4.only hO16 (by first | exact ne_b1_r6 | exact ne_r6_b1.symm | (show ¬ b1 = r6; omega))
  replace hF := hF.loc hO16 (.inr g_r6)
  replace M9 := hBq
  clear hBq
  refine fx_val (v := .map (some r6)) fr rfl rfl (by first | decide | simp) (x_move rfl (fr.ev rfl)) ?_
  clear fr a; intro a fr
  refine fx_val (v := .pointer (some ⟨b1, 0, none⟩)) fr rfl rfl (by first | decide | simp) (x_fieldAddr fo36_0 rfl (fr.ev rfl) rfl) ?_
  clear fr a; intro a fr
  refine fx_val (v := .int .i64 m.kind) fr rfl rfl (by first | decide | simp) (x_load1 pl33 rfl (fr.ev rfl) (B4.cell 0 rfl)) ?_
  clear fr a; intro a fr
  refine fx_val (v := .func (.func 60) #[.pointer (some ⟨bw, 0, none⟩)] #[]) fr rfl rfl (by first | decide | simp) (x_lookup (k := .i64) (ok := false) (v := .func (.func 60) #[.pointer (some ⟨bw, 0, none⟩)] #[]) (b := true) Try.underlying84 Try.underlying33 rfl (fr.ev rfl) (fr.ev rfl) M9 (z := .nilFunc) (by kernel_rfl) (by rw [hk]; rfl)) ?_
  clear fr a; intro a fr
  refine fx_val (v := .agg (msgE.arr m)) fr rfl rfl (by first | decide | simp) (x_loadE (E := msgE) ag36 rfl rfl (fr.ev rfl) (B4.rangeE msgE)) ?_
  clear fr a; intro a fr
  refine fx_call fr rfl rfl (by first | decide | simp) (x_callb (all := #[.pointer (some ⟨bw, 0, none⟩), .agg (msgE.arr m)]) (vs := [.agg (msgE.arr m)]) rfl (fr.ev rfl) ⟨(fr.ev rfl), trivial⟩ rfl Try.func60 nm60 rfl) (gets_c m ⟨hW, hE, hH, hI, hQ, hO, ⟨ne_bw_be, ne_bw_bh, ne_bw_bi, ne_bw_ig, ne_be_bh, ne_be_bi, ne_be_ig, ne_bh_bi, ne_bh_ig, ne_bi_ig, ap_Q_bw, ap_Q_be, ap_Q_bh, ap_Q_bi, ap_Q_ig, ap_A_bw, ap_A_be, ap_A_bh, ap_A_bi, ap_A_ig, ap2_Q_A⟩⟩ (by first | omega | (simp only [List.length_append, List.length_cons, List.length_nil, List.length_map, List.length_take]; omega)) hsrc hk) ?_
  clear fr a
  rintro v w22 ⟨rfl, A17, ac18, R19, mv20, hN23⟩ a fr
  have ap_A17_b1 : Apart A17 b1 := moved_apart mv20 ap_A_b1 B4.lt
  have ap_A17_r6 : Apart A17 r6 := moved_apart mv20 ap_A_r6 M9.lt
  have gA_A17 := gA_moved hF mv20 gA_A
  replace B4 := B4.only hN23 (fun h => h.elim (by first | exact ne_b1_bw | exact ne_bw_b1.symm | (show ¬ b1 = bw; omega)) (fun h => h.elim (by first | exact ne_b1_be | exact ne_be_b1.symm | (show ¬ b1 = be; omega)) (fun h => h.elim (by first | exact ne_b1_ig | exact ne_ig_b1.symm | (show ¬ b1 = ig; omega)) ap_A_b1)))
  replace M9 := M9.only hN23 (fun h => h.elim (by first | exact ne_r6_bw | exact ne_bw_r6.symm | (show ¬ r6 = bw; omega)) (fun h => h.elim (by first | exact ne_r6_be | exact ne_be_r6.symm | (show ¬ r6 = be; omega)) (fun h => h.elim (by first | exact ne_r6_ig | exact ne_ig_r6.symm | (show ¬ r6 = ig; omega)) ap_A_r6)))
  replace hF := hF.locS hN23 (fun i => (fun h => h.elim (fun e => by rw [e]; exact (.inl (.inl rfl))) (fun h => h.elim (fun e => by rw [e]; exact (.inl (.inr (.inl rfl)))) (fun h => h.elim (fun e => by rw [e]; exact (.inl (.inr (.inr (.inl rfl))))) (fun h => gA_A i h)))))
  clear hW hE hH hI hQ hO
  obtain ⟨hW, hE, hH, hI, hQ, O21, hS⟩ := R19
  have ap_A17_bw := hS.ap_A_bw
  have ap_A17_be := hS.ap_A_be
  have ap_A17_bh := hS.ap_A_bh
  have ap_A17_bi := hS.ap_A_bi
  have ap_A17_ig := hS.ap_A_ig
  have ap2_Q_A17 := hS.ap2_Q_A
  refine wpList_nil ?_
  refine fx_end fr [] [] rfl trivial rfl ?_
  exact ⟨_, rfl, rfl, A17, ac18, ⟨hW, hE, hH, hI, hQ, O21, ⟨ne_bw_be, ne_bw_bh, ne_bw_bi, ne_bw_ig, ne_be_bh, ne_be_bi, ne_be_ig, ne_bh_bi, ne_bh_ig, ne_bi_ig, ap_Q_bw, ap_Q_be, ap_Q_bh, ap_Q_bi, ap_Q_ig, ap_A17_bw, ap_A17_be, ap_A17_bh, ap_A17_bi, ap_A17_ig, ap2_Q_A17⟩⟩, wmv gA_A17 ap_A17_bw ap_A17_be ap_A17_ig, hF⟩
set_option maxRecDepth 100000 in
set_option maxHeartbeats 4000000 in
theorem begin_2 {w : World} {bw be bh bi ig cap r : Nat} {d : Ent} {Q : Option Addr} {qc : Nat} {A : Option Addr} {ac : Nat} {out : List Msg} {bs : List UInt8} (m : Msg) (R : WorkR w bw be bh bi ig cap r m.line d Q qc A ac out bs) (hlen : out.length + 8 ≤ 1000000) (hsrc : 0 ≤ m.src ∧ m.src < 4) (hk : m.kind = 2) : Calls Try.prog 48 #[.pointer (some ⟨bw, 0, none⟩), .agg (msgE.arr m)] w (Ret fun v w' => v = .tuple #[] ∧ WRet w w' bw be bh bi ig cap r m.line Q qc A out (beginF bs d m).1 (beginF bs d m).2.1 (beginF bs d m).2.2) := by
  obtain ⟨hW, hE, hH, hI, hQ, hO, hS⟩ := R
  have ne_bw_be := hS.ne_bw_be
  have ne_bw_bh := hS.ne_bw_bh
  have ne_bw_bi := hS.ne_bw_bi
  have ne_bw_ig := hS.ne_bw_ig
  have ne_be_bh := hS.ne_be_bh
  have ne_be_bi := hS.ne_be_bi
  have ne_be_ig := hS.ne_be_ig
  have ne_bh_bi := hS.ne_bh_bi
  have ne_bh_ig := hS.ne_bh_ig
  have ne_bi_ig := hS.ne_bi_ig
  have ap_Q_bw := hS.ap_Q_bw
  have ap_Q_be := hS.ap_Q_be
  have ap_Q_bh := hS.ap_Q_bh
  have ap_Q_bi := hS.ap_Q_bi
  have ap_Q_ig := hS.ap_Q_ig
  have ap_A_bw := hS.ap_A_bw
  have ap_A_be := hS.ap_A_be
  have ap_A_bh := hS.ap_A_bh
  have ap_A_bi := hS.ap_A_bi
  have ap_A_ig := hS.ap_A_ig
  have ap2_Q_A := hS.ap2_Q_A
  have gA_A : ∀ g, inA A g → (g = bw ∨ g = be ∨ g = ig ∨ inA A g) ∨ w.heap.size ≤ g := fun g hg => .inl (.inr (.inr (.inr hg)))
  have hmn := m.hn
  have hF := Only.refl (fun k => k = bw ∨ k = be ∨ k = ig ∨ inA A k) w
  refine fx_enter Try.func48 rfl (N := (17, [])) (T := [(0, .pointer (some ⟨bw, 0, none⟩)), (1, .agg (msgE.arr m))]) rfl (show 2 ≤ 17 by decide) ⟨rfl, rfl, trivial⟩ fun a fr => ?_
  refine wp_seq ?_
  refine wp_region_lit ?_  -- region 0
  refine fx_new fr rfl rfl (by first | decide | simp) (x_box (cs := msgE.arr m) rfl (fr.ev rfl) rfl) ?_
  clear fr a
  intro b1 w2 hN3 B4 hb5 a fr
  have ne_bw_b1 : NE bw b1 := NE.mk (Nat.lt_of_lt_of_le hW.lt hb5)
  have ne_be_b1 : NE be b1 := NE.mk (Nat.lt_of_lt_of_le hE.lt hb5)
  have ne_bh_b1 : NE bh b1 := NE.mk (Nat.lt_of_lt_of_le hH.lt hb5)
  have ne_bi_b1 : NE bi b1 := NE.mk (Nat.lt_of_lt_of_le hI.lt.1 hb5)
  have ne_ig_b1 : NE ig b1 := NE.mk (Nat.lt_of_lt_of_le hI.lt.2 hb5)
  have ap_Q_b1 : Apart Q b1 := hQ.apart hb5
  have ap_A_b1 : Apart A b1 := hO.apart hb5
  have g_b1 := Nat.le_trans hF.size hb5
  replace hW := hW.new hN3
  replace hE := hE.new hN3
  replace hH := hH.new hN3
  replace hI := hI.new hN3
  replace hQ := hQ.new hN3
  replace hO := hO.new hN3
  replace hF := hF.trNew hN3
  refine wpList_nil ?_
  refine fx_next ?_
  refine wp_region_lit ?_  -- region 1
  refine fx_makeMap fr rfl rfl rfl (by first | decide | simp) ?_
  clear fr a
  intro r6 w7 hN8 M9 hb10 a fr
  have ne_bw_r6 : NE bw r6 := NE.mk (Nat.lt_of_lt_of_le hW.lt hb10)
  have ne_be_r6 : NE be r6 := NE.mk (Nat.lt_of_lt_of_le hE.lt hb10)
  have ne_bh_r6 : NE bh r6 := NE.mk (Nat.lt_of_lt_of_le hH.lt hb10)
  have ne_bi_r6 : NE bi r6 := NE.mk (Nat.lt_of_lt_of_le hI.lt.1 hb10)
  have ne_ig_r6 : NE ig r6 := NE.mk (Nat.lt_of_lt_of_le hI.lt.2 hb10)
  have ap_Q_r6 : Apart Q r6 := hQ.apart hb10
  have ap_A_r6 : Apart A r6 := hO.apart hb10
  have ne_b1_r6 : NE b1 r6 := NE.mk (Nat.lt_of_lt_of_le B4.lt hb10)
  have g_r6 := Nat.le_trans hF.size hb10
  replace hW := hW.new hN8
  replace hE := hE.new hN8
  replace hH := hH.new hN8
  replace hI := hI.new hN8
  replace hQ := hQ.new hN8
  replace hO := hO.new hN8
  replace B4 := B4.new hN8
  replace hF := hF.trNew hN8
  refine fx_val (v := .pointer (some ⟨bw, 0, none⟩)) fr rfl rfl (by first | decide | simp) (x_move rfl (fr.ev rfl)) ?_
  clear fr a; intro a fr
  refine fx_val (v := .func (.func 60) #[.pointer (some ⟨bw, 0, none⟩)] #[]) fr rfl rfl (by first | decide | simp) (x_makeBound rfl (fr.ev rfl)) ?_
  clear fr a; intro a fr
  refine fx_insert (es' := #[⟨.int .i64 1, .func (.func 60) #[.pointer (some ⟨bw, 0, none⟩)] #[], 0⟩]) Try.underlying84 Try.underlying33 rfl rfl rfl (fr.ev rfl) rfl (fr.ev rfl) M9 rfl rfl fun w11 hO12 hBq => ?_
  replace hW := hW.only hO12 (by first | exact ne_bw_r6 | exact ne_r6_bw.symm | (show ¬ bw = r6; omega))
  replace hE := hE.only hO12 (by first | exact ne_be_r6 | exact ne_r6_be.symm | (show ¬ be = r6; omega))
  replace hH := hH.only hO12 (by first | exact ne_bh_r6 | exact ne_r6_bh.symm | (show ¬ bh = r6; omega))
  replace hI := hI.only hO12 (by first | exact ne_bi_r6 | exact ne_r6_bi.symm | (show ¬ bi = r6; omega)) (by first | exact ne_ig_r6 | exact ne_r6_ig.symm | (show ¬ ig = r6; omega))
  replace hQ := hQ.only hO12 (Apart.ne1 ap_Q_r6)
  replace hO := hO.only hO12 (Apart.ne1 ap_A_r6)
  replace B4 := B4.only hO12 (by first | exact ne_b1_r6 | exact ne_r6_b1.symm | (show ¬ b1 = r6; omega))
  replace hF := hF.loc hO12 (.inr g_r6)
  replace M9 := hBq
  clear hBq
  refine fx_val (v := .pointer (some ⟨bw, 0, none⟩)) fr rfl rfl (by first | decide | simp) (x_move rfl (fr.ev rfl)) ?_
  clear fr a; intro a fr
  refine fx_val (v := .func (.func 61) #[.pointer (some ⟨bw, 0, none⟩)] #[]) fr rfl rfl (by first | decide | simp) (x_makeBound rfl (fr.ev rfl)) ?_
  clear fr a; intro a fr
  refine fx_insert (es' := #[⟨.int .i64 1, .func (.func 60) #[.pointer (some ⟨bw, 0, none⟩)] #[], 0⟩, ⟨.int .i64 2, .func (.func 61) #[.pointer (some ⟨bw, 0, none⟩)] #[], 1⟩]) Try.underlying84 Try.underlying33 rfl rfl rfl (fr.ev rfl) rfl (fr.ev rfl) M9 rfl rfl fun w13 hO14 hBq => ?_
  replace hW := hW.only hO14 (by first | exact ne_bw_r6 | exact ne_r6_bw.symm | (show ¬ bw = r6; omega))
  replace hE := hE.only hO14 (by first | exact ne_be_r6 | exact ne_r6_be.symm | (show ¬ be = r6; omega))
  replace hH := hH.only hO14 (by first | exact ne_bh_r6 | exact ne_r6_bh.symm | (show ¬ bh = r6; omega))
  replace hI := hI.only hO14 (by first | exact ne_bi_r6 | exact ne_r6_bi.symm | (show ¬ bi = r6; omega)) (by first | exact ne_ig_r6 | exact ne_r6_ig.symm | (show ¬ ig = r6; omega))
  replace hQ := hQ.only hO14 (Apart.ne1 ap_Q_r6)
  replace hO := hO.only hO14 (Apart.ne1 ap_A_r6)
  replace B4 := B4.only hO14 (by first | exact ne_b1_r6 | exact ne_r6_b1.symm | (show ¬ b1 = r6; omega))
  replace hF := hF.loc hO14 (.inr g_r6)
  replace M9 := hBq
  clear hBq
  refine fx_val (v := .pointer (some ⟨bw, 0, none⟩)) fr rfl rfl (by first | decide | simp) (x_move rfl (fr.ev rfl)) ?_
  clear fr a; intro a fr
  refine fx_val (v := .func (.func 62) #[.pointer (some ⟨bw, 0, none⟩)] #[]) fr rfl rfl (by first | decide | simp) (x_makeBound rfl (fr.ev rfl)) ?_
  clear fr a; intro a fr
  refine fx_insert (es' := #[⟨.int .i64 1, .func (.func 60) #[.pointer (some ⟨bw, 0, none⟩)] #[], 0⟩, ⟨.int .i64 2, .func (.func 61) #[.pointer (some ⟨bw, 0, none⟩)] #[], 1⟩, ⟨.int .i64 3, .func (.func 62) #[.pointer (some ⟨bw, 0, none⟩)] #[], 2⟩]) Try.underlying84 Try.underlying33 rfl rfl rfl (fr.ev rfl) rfl (fr.ev rfl) M9 rfl rfl fun w15 hO16 hBq => ?_
  replace hW := hW.only hO16 (by first | exact ne_bw_r6 | exact ne_r6_bw.symm | (show ¬ bw = r6; omega))
  replace hE := hE.only hO16 (by first | exact ne_be_r6 | exact ne_r6_be.symm | (show ¬ be = r6; omega))
  replace hH := hH.only hO16 (by first | exact ne_bh_r6 | exact ne_r6_bh.symm | (show ¬ bh = r6; omega))
  replace hI := hI.only hO16 (by first | exact ne_bi_r6 | exact ne_r6_bi.symm | (show ¬ bi = r6; omega)) (by first | exact ne_ig_r6 | exact ne_r6_ig.symm | (show ¬ ig = r6; omega))
  replace hQ := hQ.only hO16 (Apart.ne1 ap_Q_r6)
  replace hO := hO.only hO16 (Apart.ne1 ap_A_r6)
  replace B4 := B4.only hO16 (by first | exact ne_b1_r6 | exact ne_r6_b1.symm | (show ¬ b1 = r6; omega))
  replace hF := hF.loc hO16 (.inr g_r6)
  replace M9 := hBq
  clear hBq
  refine fx_val (v := .map (some r6)) fr rfl rfl (by first | decide | simp) (x_move rfl (fr.ev rfl)) ?_
  clear fr a; intro a fr
  refine fx_val (v := .pointer (some ⟨b1, 0, none⟩)) fr rfl rfl (by first | decide | simp) (x_fieldAddr fo36_0 rfl (fr.ev rfl) rfl) ?_
  clear fr a; intro a fr
  refine fx_val (v := .int .i64 m.kind) fr rfl rfl (by first | decide | simp) (x_load1 pl33 rfl (fr.ev rfl) (B4.cell 0 rfl)) ?_
  clear fr a; intro a fr
  refine fx_val (v := .func (.func 61) #[.pointer (some ⟨bw, 0, none⟩)] #[]) fr rfl rfl (by first | decide | simp) (x_lookup (k := .i64) (ok := false) (v := .func (.func 61) #[.pointer (some ⟨bw, 0, none⟩)] #[]) (b := true) Try.underlying84 Try.underlying33 rfl (fr.ev rfl) (fr.ev rfl) M9 (z := .nilFunc) (by kernel_rfl) (by rw [hk]; rfl)) ?_
  clear fr a; intro a fr
  refine fx_val (v := .agg (msgE.arr m)) fr rfl rfl (by first | decide | simp) (x_loadE (E := msgE) ag36 rfl rfl (fr.ev rfl) (B4.rangeE msgE)) ?_
  clear fr a; intro a fr
  refine fx_call fr rfl rfl (by first | decide | simp) (x_callb (all := #[.pointer (some ⟨bw, 0, none⟩), .agg (msgE.arr m)]) (vs := [.agg (msgE.arr m)]) rfl (fr.ev rfl) ⟨(fr.ev rfl), trivial⟩ rfl Try.func61 nm61 rfl) (getm_c m ⟨hW, hE, hH, hI, hQ, hO, ⟨ne_bw_be, ne_bw_bh, ne_bw_bi, ne_bw_ig, ne_be_bh, ne_be_bi, ne_be_ig, ne_bh_bi, ne_bh_ig, ne_bi_ig, ap_Q_bw, ap_Q_be, ap_Q_bh, ap_Q_bi, ap_Q_ig, ap_A_bw, ap_A_be, ap_A_bh, ap_A_bi, ap_A_ig, ap2_Q_A⟩⟩ (by first | omega | (simp only [List.length_append, List.length_cons, List.length_nil, List.length_map, List.length_take]; omega)) hsrc hk) ?_
  clear fr a
  rintro v w22 ⟨rfl, A17, ac18, R19, mv20, hN23⟩ a fr
  have ap_A17_b1 : Apart A17 b1 := moved_apart mv20 ap_A_b1 B4.lt
  have ap_A17_r6 : Apart A17 r6 := moved_apart mv20 ap_A_r6 M9.lt
  have gA_A17 := gA_moved hF mv20 gA_A
  replace B4 := B4.only hN23 (fun h => h.elim (by first | exact ne_b1_bw | exact ne_bw_b1.symm | (show ¬ b1 = bw; omega)) (fun h => h.elim (by first | exact ne_b1_be | exact ne_be_b1.symm | (show ¬ b1 = be; omega)) (fun h => h.elim (by first | exact ne_b1_ig | exact ne_ig_b1.symm | (show ¬ b1 = ig; omega)) ap_A_b1)))
  replace M9 := M9.only hN23 (fun h => h.elim (by first | exact ne_r6_bw | exact ne_bw_r6.symm | (show ¬ r6 = bw; omega)) (fun h => h.elim (by first | exact ne_r6_be | exact ne_be_r6.symm | (show ¬ r6 = be; omega)) (fun h => h.elim (by first | exact ne_r6_ig | exact ne_ig_r6.symm | (show ¬ r6 = ig; omega)) ap_A_r6)))
  replace hF := hF.locS hN23 (fun i => (fun h => h.elim (fun e => by rw [e]; exact (.inl (.inl rfl))) (fun h => h.elim (fun e => by rw [e]; exact (.inl (.inr (.inl rfl)))) (fun h => h.elim (fun e => by rw [e]; exact (.inl (.inr (.inr (.inl rfl))))) (fun h => gA_A i h)))))
  clear hW hE hH hI hQ hO
  obtain ⟨hW, hE, hH, hI, hQ, O21, hS⟩ := R19
  have ap_A17_bw := hS.ap_A_bw
  have ap_A17_be := hS.ap_A_be
  have ap_A17_bh := hS.ap_A_bh
  have ap_A17_bi := hS.ap_A_bi
  have ap_A17_ig := hS.ap_A_ig
  have ap2_Q_A17 := hS.ap2_Q_A
  refine wpList_nil ?_
  refine fx_end fr [] [] rfl trivial rfl ?_
  exact ⟨_, rfl, rfl, A17, ac18, ⟨hW, hE, hH, hI, hQ, O21, ⟨ne_bw_be, ne_bw_bh, ne_bw_bi, ne_bw_ig, ne_be_bh, ne_be_bi, ne_be_ig, ne_bh_bi, ne_bh_ig, ne_bi_ig, ap_Q_bw, ap_Q_be, ap_Q_bh, ap_Q_bi, ap_Q_ig, ap_A17_bw, ap_A17_be, ap_A17_bh, ap_A17_bi, ap_A17_ig, ap2_Q_A17⟩⟩, wmv gA_A17 ap_A17_bw ap_A17_be ap_A17_ig, hF⟩
set_option maxRecDepth 100000 in
set_option maxHeartbeats 4000000 in
theorem begin_3 {w : World} {bw be bh bi ig cap r : Nat} {d : Ent} {Q : Option Addr} {qc : Nat} {A : Option Addr} {ac : Nat} {out : List Msg} {bs : List UInt8} (m : Msg) (R : WorkR w bw be bh bi ig cap r m.line d Q qc A ac out bs) (hlen : out.length + 8 ≤ 1000000) (hsrc : 0 ≤ m.src ∧ m.src < 4) (hk : m.kind = 3) : Calls Try.prog 48 #[.pointer (some ⟨bw, 0, none⟩), .agg (msgE.arr m)] w (Ret fun v w' => v = .tuple #[] ∧ WRet w w' bw be bh bi ig cap r m.line Q qc A out (beginF bs d m).1 (beginF bs d m).2.1 (beginF bs d m).2.2) := by
  obtain ⟨hW, hE, hH, hI, hQ, hO, hS⟩ := R
  have ne_bw_be := hS.ne_bw_be
  have ne_bw_bh := hS.ne_bw_bh
  have ne_bw_bi := hS.ne_bw_bi
  have ne_bw_ig := hS.ne_bw_ig
  have ne_be_bh := hS.ne_be_bh
  have ne_be_bi := hS.ne_be_bi
  have ne_be_ig := hS.ne_be_ig
  have ne_bh_bi := hS.ne_bh_bi
  have ne_bh_ig := hS.ne_bh_ig
  have ne_bi_ig := hS.ne_bi_ig
  have ap_Q_bw := hS.ap_Q_bw
  have ap_Q_be := hS.ap_Q_be
  have ap_Q_bh := hS.ap_Q_bh
  have ap_Q_bi := hS.ap_Q_bi
  have ap_Q_ig := hS.ap_Q_ig
  have ap_A_bw := hS.ap_A_bw
  have ap_A_be := hS.ap_A_be
  have ap_A_bh := hS.ap_A_bh
  have ap_A_bi := hS.ap_A_bi
  have ap_A_ig := hS.ap_A_ig
  have ap2_Q_A := hS.ap2_Q_A
  have gA_A : ∀ g, inA A g → (g = bw ∨ g = be ∨ g = ig ∨ inA A g) ∨ w.heap.size ≤ g := fun g hg => .inl (.inr (.inr (.inr hg)))
  have hmn := m.hn
  have hF := Only.refl (fun k => k = bw ∨ k = be ∨ k = ig ∨ inA A k) w
  refine fx_enter Try.func48 rfl (N := (17, [])) (T := [(0, .pointer (some ⟨bw, 0, none⟩)), (1, .agg (msgE.arr m))]) rfl (show 2 ≤ 17 by decide) ⟨rfl, rfl, trivial⟩ fun a fr => ?_
  refine wp_seq ?_
  refine wp_region_lit ?_  -- region 0
  refine fx_new fr rfl rfl (by first | decide | simp) (x_box (cs := msgE.arr m) rfl (fr.ev rfl) rfl) ?_
  clear fr a
  intro b1 w2 hN3 B4 hb5 a fr
  have ne_bw_b1 : NE bw b1 := NE.mk (Nat.lt_of_lt_of_le hW.lt hb5)
  have ne_be_b1 : NE be b1 := NE.mk (Nat.lt_of_lt_of_le hE.lt hb5)
  have ne_bh_b1 : NE bh b1 := NE.mk (Nat.lt_of_lt_of_le hH.lt hb5)
  have ne_bi_b1 : NE bi b1 := NE.mk (Nat.lt_of_lt_of_le hI.lt.1 hb5)
  have ne_ig_b1 : NE ig b1 := NE.mk (Nat.lt_of_lt_of_le hI.lt.2 hb5)
  have ap_Q_b1 : Apart Q b1 := hQ.apart hb5
  have ap_A_b1 : Apart A b1 := hO.apart hb5
  have g_b1 := Nat.le_trans hF.size hb5
  replace hW := hW.new hN3
  replace hE := hE.new hN3
  replace hH := hH.new hN3
  replace hI := hI.new hN3
  replace hQ := hQ.new hN3
  replace hO := hO.new hN3
  replace hF := hF.trNew hN3
  refine wpList_nil ?_
  refine fx_next ?_
  refine wp_region_lit ?_  -- region 1
  refine fx_makeMap fr rfl rfl rfl (by first | decide | simp) ?_
  clear fr a
  intro r6 w7 hN8 M9 hb10 a fr
  have ne_bw_r6 : NE bw r6 := NE.mk (Nat.lt_of_lt_of_le hW.lt hb10)
  have ne_be_r6 : NE be r6 := NE.mk (Nat.lt_of_lt_of_le hE.lt hb10)
  have ne_bh_r6 : NE bh r6 := NE.mk (Nat.lt_of_lt_of_le hH.lt hb10)
  have ne_bi_r6 : NE bi r6 := NE.mk (Nat.lt_of_lt_of_le hI.lt.1 hb10)
  have ne_ig_r6 : NE ig r6 := NE.mk (Nat.lt_of_lt_of_le hI.lt.2 hb10)
  have ap_Q_r6 : Apart Q r6 := hQ.apart hb10
  have ap_A_r6 : Apart A r6 := hO.apart hb10
  have ne_b1_r6 : NE b1 r6 := NE.mk (Nat.lt_of_lt_of_le B4.lt hb10)
  have g_r6 := Nat.le_trans hF.size hb10
  replace hW := hW.new hN8
  replace hE := hE.new hN8
  replace hH := hH.new hN8
  replace hI := hI.new hN8
  replace hQ := hQ.new hN8
  replace hO := hO.new hN8
  replace B4 := B4.new hN8
  replace hF := hF.trNew hN8
  refine fx_val (v := .pointer (some ⟨bw, 0, none⟩)) fr rfl rfl (by first | decide | simp) (x_move rfl (fr.ev rfl)) ?_
  clear fr a; intro a fr
  refine fx_val (v := .func (.func 60) #[.pointer (some ⟨bw, 0, none⟩)] #[]) fr rfl rfl (by first | decide | simp) (x_makeBound rfl (fr.ev rfl)) ?_
  clear fr a; intro a fr
  refine fx_insert (es' := #[⟨.int .i64 1, .func (.func 60) #[.pointer (some ⟨bw, 0, none⟩)] #[], 0⟩]) Try.underlying84 Try.underlying33 rfl rfl rfl (fr.ev rfl) rfl (fr.ev rfl) M9 rfl rfl fun w11 hO12 hBq => ?_
  replace hW := hW.only hO12 (by first | exact ne_bw_r6 | exact ne_r6_bw.symm | (show ¬ bw = r6; omega))
  replace hE := hE.only hO12 (by first | exact ne_be_r6 | exact ne_r6_be.symm | (show ¬ be = r6; omega))
  replace hH := hH.only hO12 (by first | exact ne_bh_r6 | exact ne_r6_bh.symm | (show ¬ bh = r6; omega))
  replace hI := hI.only hO12 (by first | exact ne_bi_r6 | exact ne_r6_bi.symm | (show ¬ bi = r6; omega)) (by first | exact ne_ig_r6 | exact ne_r6_ig.symm | (show ¬ ig = r6; omega))
  replace hQ := hQ.only hO12 (Apart.ne1 ap_Q_r6)
  replace hO := hO.only hO12 (Apart.ne1 ap_A_r6)
  replace B4 := B4.only hO12 (by first | exact ne_b1_r6 | exact ne_r6_b1.symm | (show ¬ b1 = r6; omega))
  replace hF := hF.loc hO12 (.inr g_r6)
  replace M9 := hBq
  clear hBq
  refine fx_val (v := .pointer (some ⟨bw, 0, none⟩)) fr rfl rfl (by first | decide | simp) (x_move rfl (fr.ev rfl)) ?_
  clear fr a; intro a fr
  refine fx_val (v := .func (.func 61) #[.pointer (some ⟨bw, 0, none⟩)] #[]) fr rfl rfl (by first | decide | simp) (x_makeBound rfl (fr.ev rfl)) ?_
  clear fr a; intro a fr
  refine fx_insert (es' := #[⟨.int .i64 1, .func (.func 60) #[.pointer (some ⟨bw, 0, none⟩)] #[], 0⟩, ⟨.int .i64 2, .func (.func 61) #[.pointer (some ⟨bw, 0, none⟩)] #[], 1⟩]) Try.underlying84 Try.underlying33 rfl rfl rfl (fr.ev rfl) rfl (fr.ev rfl) M9 rfl rfl fun w13 hO14 hBq => ?_
  replace hW := hW.only hO14 (by first | exact ne_bw_r6 | exact ne_r6_bw.symm | (show ¬ bw = r6; omega))
  replace hE := hE.only hO14 (by first | exact ne_be_r6 | exact ne_r6_be.symm | (show ¬ be = r6; omega))
  replace hH := hH.only hO14 (by first | exact ne_bh_r6 | exact ne_r6_bh.symm | (show ¬ bh = r6; omega))
  replace hI := hI.only hO14 (by first | exact ne_bi_r6 | exact ne_r6_bi.symm | (show ¬ bi = r6; omega)) (by first | exact ne_ig_r6 | exact ne_r6_ig.symm | (show ¬ ig = r6; omega))
  replace hQ := hQ.only hO14 (Apart.ne1 ap_Q_r6)
  replace hO := hO.only hO14 (Apart.ne1 ap_A_r6)
  replace B4 := B4.only hO14 (by first | exact ne_b1_r6 | exact ne_r6_b1.symm | (show ¬ b1 = r6; omega))
  replace hF := hF.loc hO14 (.inr g_r6)
  replace M9 := hBq
  clear hBq
  refine fx_val (v := .pointer (some ⟨bw, 0, none⟩)) fr rfl rfl (by first | decide | simp) (x_move rfl (fr.ev rfl)) ?_
  clear fr a; intro a fr
  refine fx_val (v := .func (.func 62) #[.pointer (some ⟨bw, 0, none⟩)] #[]) fr rfl rfl (by first | decide | simp) (x_makeBound rfl (fr.ev rfl)) ?_
  clear fr a; intro a fr
  refine fx_insert (es' := #[⟨.int .i64 1, .func (.func 60) #[.pointer (some ⟨bw, 0, none⟩)] #[], 0⟩, ⟨.int .i64 2, .func (.func 61) #[.pointer (some ⟨bw, 0, none⟩)] #[], 1⟩, ⟨.int .i64 3, .func (.func 62) #[.pointer (some ⟨bw, 0, none⟩)] #[], 2⟩]) Try.underlying84 Try.underlying33 rfl rfl rfl (fr.ev rfl) rfl (fr.ev rfl) M9 rfl rfl fun w15 hO16 hBq => ?_
  replace hW := hW.only hO16 (by first | exact ne_bw_r6 | exact ne_r6_bw.symm | (show ¬ bw = r6; omega))
  replace hE := hE.only hO16 (by first | exact ne_be_r6 | exact ne_r6_be.symm | (show ¬ be = r6; omega))
  replace hH := hH.only hO16 (by first | exact ne_bh_r6 | exact ne_r6_bh.symm | (show ¬ bh = r6; omega))
  replace hI := hI.only hO16 (by first | exact ne_bi_r6 | exact ne_r6_bi.symm | (show ¬ bi = r6; omega)) (by first | exact ne_ig_r6 | exact ne_r6_ig.symm | (show ¬ ig = r6; omega))
  replace hQ := hQ.only hO16 (Apart.ne1 ap_Q_r6)
  replace hO := hO.only hO16 (Apart.ne1 ap_A_r6)
  replace B4 := B4.only hO16 (by first | exact ne_b1_r6 | exact ne_r6_b1.symm | (show ¬ b1 = r6; omega))
  replace hF := hF.loc hO16 (.inr g_r6)
  replace M9 := hBq
  clear hBq
  refine fx_val (v := .map (some r6)) fr rfl rfl (by first | decide | simp) (x_move rfl (fr.ev rfl)) ?_
  clear fr a; intro a fr
  refine fx_val (v := .pointer (some ⟨b1, 0, none⟩)) fr rfl rfl (by first | decide | simp) (x_fieldAddr fo36_0 rfl (fr.ev rfl) rfl) ?_
  clear fr a; intro a fr
  refine fx_val (v := .int .i64 m.kind) fr rfl rfl (by first | decide | simp) (x_load1 pl33 rfl (fr.ev rfl) (B4.cell 0 rfl)) ?_
  clear fr a; intro a fr
  refine fx_val (v := .func (.func 62) #[.pointer (some ⟨bw, 0, none⟩)] #[]) fr rfl rfl (by first | decide | simp) (x_lookup (k := .i64) (ok := false) (v := .func (.func 62) #[.pointer (some ⟨bw, 0, none⟩)] #[]) (b := true) Try.underlying84 Try.underlying33 rfl (fr.ev rfl) (fr.ev rfl) M9 (z := .nilFunc) (by kernel_rfl) (by rw [hk]; rfl)) ?_
  clear fr a; intro a fr
  refine fx_val (v := .agg (msgE.arr m)) fr rfl rfl (by first | decide | simp) (x_loadE (E := msgE) ag36 rfl rfl (fr.ev rfl) (B4.rangeE msgE)) ?_
  clear fr a; intro a fr
  refine fx_call fr rfl rfl (by first | decide | simp) (x_callb (all := #[.pointer (some ⟨bw, 0, none⟩), .agg (msgE.arr m)]) (vs := [.agg (msgE.arr m)]) rfl (fr.ev rfl) ⟨(fr.ev rfl), trivial⟩ rfl Try.func62 nm62 rfl) (put_c m ⟨hW, hE, hH, hI, hQ, hO, ⟨ne_bw_be, ne_bw_bh, ne_bw_bi, ne_bw_ig, ne_be_bh, ne_be_bi, ne_be_ig, ne_bh_bi, ne_bh_ig, ne_bi_ig, ap_Q_bw, ap_Q_be, ap_Q_bh, ap_Q_bi, ap_Q_ig, ap_A_bw, ap_A_be, ap_A_bh, ap_A_bi, ap_A_ig, ap2_Q_A⟩⟩ (by first | omega | (simp only [List.length_append, List.length_cons, List.length_nil, List.length_map, List.length_take]; omega)) hsrc hk) ?_
  clear fr a
  rintro v w22 ⟨rfl, A17, ac18, R19, mv20, hN23⟩ a fr
  have ap_A17_b1 : Apart A17 b1 := moved_apart mv20 ap_A_b1 B4.lt
  have ap_A17_r6 : Apart A17 r6 := moved_apart mv20 ap_A_r6 M9.lt
  have gA_A17 := gA_moved hF mv20 gA_A
  replace B4 := B4.only hN23 (fun h => h.elim (by first | exact ne_b1_bw | exact ne_bw_b1.symm | (show ¬ b1 = bw; omega)) (fun h => h.elim (by first | exact ne_b1_be | exact ne_be_b1.symm | (show ¬ b1 = be; omega)) (fun h => h.elim (by first | exact ne_b1_ig | exact ne_ig_b1.symm | (show ¬ b1 = ig; omega)) ap_A_b1)))
  replace M9 := M9.only hN23 (fun h => h.elim (by first | exact ne_r6_bw | exact ne_bw_r6.symm | (show ¬ r6 = bw; omega)) (fun h => h.elim (by first | exact ne_r6_be | exact ne_be_r6.symm | (show ¬ r6 = be; omega)) (fun h => h.elim (by first | exact ne_r6_ig | exact ne_ig_r6.symm | (show ¬ r6 = ig; omega)) ap_A_r6)))
  replace hF := hF.locS hN23 (fun i => (fun h => h.elim (fun e => by rw [e]; exact (.inl (.inl rfl))) (fun h => h.elim (fun e => by rw [e]; exact (.inl (.inr (.inl rfl)))) (fun h => h.elim (fun e => by rw [e]; exact (.inl (.inr (.inr (.inl rfl))))) (fun h => gA_A i h)))))
  clear hW hE hH hI hQ hO
  obtain ⟨hW, hE, hH, hI, hQ, O21, hS⟩ := R19
  have ap_A17_bw := hS.ap_A_bw
  have ap_A17_be := hS.ap_A_be
  have ap_A17_bh := hS.ap_A_bh
  have ap_A17_bi := hS.ap_A_bi
  have ap_A17_ig := hS.ap_A_ig
  have ap2_Q_A17 := hS.ap2_Q_A
  refine wpList_nil ?_
  refine fx_end fr [] [] rfl trivial rfl ?_
  exact ⟨_, rfl, rfl, A17, ac18, ⟨hW, hE, hH, hI, hQ, O21, ⟨ne_bw_be, ne_bw_bh, ne_bw_bi, ne_bw_ig, ne_be_bh, ne_be_bi, ne_be_ig, ne_bh_bi, ne_bh_ig, ne_bi_ig, ap_Q_bw, ap_Q_be, ap_Q_bh, ap_Q_bi, ap_Q_ig, ap_A17_bw, ap_A17_be, ap_A17_bh, ap_A17_bi, ap_A17_ig, ap2_Q_A17⟩⟩, wmv gA_A17 ap_A17_bw ap_A17_be ap_A17_ig, hF⟩
theorem begin_c {w : World} {bw be bh bi ig cap r : Nat} {d : Ent} {Q : Option Addr} {qc : Nat} {A : Option Addr} {ac : Nat} {out : List Msg} {bs : List UInt8} (m : Msg) (R : WorkR w bw be bh bi ig cap r m.line d Q qc A ac out bs) (hlen : out.length + 8 ≤ 1000000) (hsrc : 0 ≤ m.src ∧ m.src < 4)  (hk : 1 ≤ m.kind ∧ m.kind ≤ 3) : Calls Try.prog 48 #[.pointer (some ⟨bw, 0, none⟩), .agg (msgE.arr m)] w (Ret fun v w' => v = .tuple #[] ∧ WRet w w' bw be bh bi ig cap r m.line Q qc A out (beginF bs d m).1 (beginF bs d m).2.1 (beginF bs d m).2.2) := by
  have h : m.kind = 1 ∨ m.kind = 2 ∨ m.kind = 3 := by omega
  rcases h with h | h | h
  · exact begin_1 m R hlen hsrc h
  · exact begin_2 m R hlen hsrc h
  · exact begin_3 m R hlen hsrc h
theorem begin_l {w : World} {bw be bh bi ig cap r : Nat} {line : Int} {d : Ent} {Q : Option Addr} {qc : Nat} {A : Option Addr} {ac : Nat} {out : List Msg} {bs : List UInt8} (m : Msg) (R : WorkR w bw be bh bi ig cap r line d Q qc A ac out bs) (hlen : out.length + 8 ≤ 1000000) (hsrc : 0 ≤ m.src ∧ m.src < 4)  (hk : 1 ≤ m.kind ∧ m.kind ≤ 3) (hml : m.line = line) : Calls Try.prog 48 #[.pointer (some ⟨bw, 0, none⟩), .agg (msgE.arr m)] w (Ret fun v w' => v = .tuple #[] ∧ WRet w w' bw be bh bi ig cap r line Q qc A out (beginF bs d m).1 (beginF bs d m).2.1 (beginF bs d m).2.2) := by
  subst hml
  exact begin_c m R hlen hsrc hk
end Go.Proofs.Ytdiaemlgghfecaa
namespace Go.Proofs.Ytdiaemlgghfecaa
open Go.RowKit
theorem hmv {n bw be ig : Nat} {A A' Q : Option Addr} (h : ∀ k, inA A' k → (k = bw ∨ k = be ∨ k = ig ∨ inA A k ∨ inA Q k) ∨ n ≤ k) (h1 : Apart A' bw) (h2 : Apart A' be) (h3 : Apart A' ig) : ∀ k, inA A' k → (inA A k ∨ inA Q k) ∨ n ≤ k := fun k hk => by
  rcases h k hk with (rfl | rfl | rfl | h) | h
  · exact absurd hk h1
  · exact absurd hk h2
  · exact absurd hk h3
  · exact .inl h
  · exact .inr h
set_option maxRecDepth 100000 in
set_option maxHeartbeats 4000000 in
theorem req_n {w : World} {bw be bh bi ig cap r : Nat} {o : Int} {sh : Sh} {asks : Int} {kind : Int} {waits : Int} {told : Bool} {q : List Msg} {Q : Option Addr} {qc : Nat} {A : Option Addr} {ac : Nat} {out : List Msg} {bs : List UInt8} (m : Msg) (R : WorkR w bw be bh bi ig cap r m.line (Ent.mk o sh false asks kind waits told q) Q qc A ac out bs) (hlen : out.length + 8 ≤ 1000000) (hsrc : 0 ≤ m.src ∧ m.src < 4) (hk : 1 ≤ m.kind ∧ m.kind ≤ 3) : Calls Try.prog 32 #[.pointer (some ⟨bw, 0, none⟩), .agg (msgE.arr m)] w (Ret fun v w' => v = .tuple #[] ∧ HRet w w' bw be bh bi ig cap r m.line Q A out (beginF bs (Ent.mk o sh false asks kind waits told q) m)) := by
  obtain ⟨hW, hE, hH, hI, hQ, hO, hS⟩ := R
  have ne_bw_be := hS.ne_bw_be
  have ne_bw_bh := hS.ne_bw_bh
  have ne_bw_bi := hS.ne_bw_bi
  have ne_bw_ig := hS.ne_bw_ig
  have ne_be_bh := hS.ne_be_bh
  have ne_be_bi := hS.ne_be_bi
  have ne_be_ig := hS.ne_be_ig
  have ne_bh_bi := hS.ne_bh_bi
  have ne_bh_ig := hS.ne_bh_ig
  have ne_bi_ig := hS.ne_bi_ig
  have ap_Q_bw := hS.ap_Q_bw
  have ap_Q_be := hS.ap_Q_be
  have ap_Q_bh := hS.ap_Q_bh
  have ap_Q_bi := hS.ap_Q_bi
  have ap_Q_ig := hS.ap_Q_ig
  have ap_A_bw := hS.ap_A_bw
  have ap_A_be := hS.ap_A_be
  have ap_A_bh := hS.ap_A_bh
  have ap_A_bi := hS.ap_A_bi
  have ap_A_ig := hS.ap_A_ig
  have ap2_Q_A := hS.ap2_Q_A
  have gA_A : ∀ g, inA A g → (g = bw ∨ g = be ∨ g = ig ∨ inA A g ∨ inA Q g) ∨ w.heap.size ≤ g := fun g hg => .inl (.inr (.inr (.inr (.inl hg))))
  have hmn := m.hn
  have gA_Q : ∀ g, inA Q g → (g = bw ∨ g = be ∨ g = ig ∨ inA A g ∨ inA Q g) ∨ w.heap.size ≤ g := fun g hg => .inl (.inr (.inr (.inr (.inr hg))))
  have hF := Only.refl (fun k => k = bw ∨ k = be ∨ k = ig ∨ inA A k ∨ inA Q k) w
  refine fx_enter Try.func32 rfl (N := (30, [])) (T := [(0, .pointer (some ⟨bw, 0, none⟩)), (1, .agg (msgE.arr m))]) rfl (show 2 ≤ 30 by decide) ⟨rfl, rfl, trivial⟩ fun a fr => ?_
  refine wp_seq ?_
  refine wp_region_lit ?_  -- region 0
  refine fx_new fr rfl rfl (by first | decide | simp) (x_box (cs := msgE.arr m) rfl (fr.ev rfl) rfl) ?_
  clear fr a
  intro b1 w2 hN3 B4 hb5 a fr
  have ne_bw_b1 : NE bw b1 := NE.mk (Nat.lt_of_lt_of_le hW.lt hb5)
  have ne_be_b1 : NE be b1 := NE.mk (Nat.lt_of_lt_of_le hE.lt hb5)
  have ne_bh_b1 : NE bh b1 := NE.mk (Nat.lt_of_lt_of_le hH.lt hb5)
  have ne_bi_b1 : NE bi b1 := NE.mk (Nat.lt_of_lt_of_le hI.lt.1 hb5)
  have ne_ig_b1 : NE ig b1 := NE.mk (Nat.lt_of_lt_of_le hI.lt.2 hb5)
  have ap_Q_b1 : Apart Q b1 := hQ.apart hb5
  have ap_A_b1 : Apart A b1 := hO.apart hb5
  have g_b1 := Nat.le_trans hF.size hb5
  replace hW := hW.new hN3
  replace hE := hE.new hN3
  replace hH := hH.new hN3
  replace hI := hI.new hN3
  replace hQ := hQ.new hN3
  replace hO := hO.new hN3
  replace hF := hF.trNew hN3
  refine wpList_nil ?_
  refine fx_next ?_
  refine wp_seq ?_
  refine wp_seq ?_
  refine wp_region_lit ?_  -- region 1
  refine fx_val (v := .pointer (some ⟨bw, 0, none⟩)) fr rfl rfl (by first | decide | simp) (x_move rfl (fr.ev rfl)) ?_
  clear fr a; intro a fr
  refine fx_val (v := .pointer (some ⟨bw, 0, none⟩)) fr rfl rfl (by first | decide | simp) (x_nilCheck rfl (fr.ev rfl)) ?_
  clear fr a; intro a fr
  refine fx_val (v := .pointer (some ⟨bw, 1, none⟩)) fr rfl rfl (by first | decide | simp) (x_fieldAddr fo82_1 rfl (fr.ev rfl) rfl) ?_
  clear fr a; intro a fr
  refine fx_val (v := .pointer (some ⟨be, 0, none⟩)) fr rfl rfl (by first | decide | simp) (x_load1 pl78 rfl (fr.ev rfl) (hW.cell 1 rfl)) ?_
  clear fr a; intro a fr
  refine fx_val (v := .pointer (some ⟨be, 0, none⟩)) fr rfl rfl (by first | decide | simp) (x_nilCheck rfl (fr.ev rfl)) ?_
  clear fr a; intro a fr
  refine fx_val (v := .pointer (some ⟨be, 5, none⟩)) fr rfl rfl (by first | decide | simp) (x_fieldAddr fo42_2 rfl (fr.ev rfl) rfl) ?_
  clear fr a; intro a fr
  refine fx_val (v := .bool false) fr rfl rfl (by first | decide | simp) (x_load1 pl4 rfl (fr.ev rfl) (hE.cell 5 rfl)) ?_
  clear fr a; intro a fr
  refine wpList_nil ?_
  refine fx_next ?_
  refine fx_cond_f fr rfl ?_
  refine wp_skip ?_
  refine fx_next ?_
  refine wp_region_lit ?_  -- region 3
  refine fx_val (v := .pointer (some ⟨bw, 0, none⟩)) fr rfl rfl (by first | decide | simp) (x_move rfl (fr.ev rfl)) ?_
  clear fr a; intro a fr
  refine fx_val (v := .agg (msgE.arr m)) fr rfl rfl (by first | decide | simp) (x_loadE (E := msgE) ag36 rfl rfl (fr.ev rfl) (B4.rangeE msgE)) ?_
  clear fr a; intro a fr
  refine fx_call fr rfl rfl (by first | decide | simp) (x_call (vs := [.pointer (some ⟨bw, 0, none⟩), .agg (msgE.arr m)]) rfl rfl ⟨(fr.ev rfl), (fr.ev rfl), trivial⟩ Try.func48 nm48 rfl) (begin_c m ⟨hW, hE, hH, hI, hQ, hO, ⟨ne_bw_be, ne_bw_bh, ne_bw_bi, ne_bw_ig, ne_be_bh, ne_be_bi, ne_be_ig, ne_bh_bi, ne_bh_ig, ne_bi_ig, ap_Q_bw, ap_Q_be, ap_Q_bh, ap_Q_bi, ap_Q_ig, ap_A_bw, ap_A_be, ap_A_bh, ap_A_bi, ap_A_ig, ap2_Q_A⟩⟩ (by first | omega | (simp only [List.length_append, List.length_cons, List.length_nil, List.length_map, List.length_take]; omega)) hsrc hk) ?_
  clear fr a
  rintro v w11 ⟨rfl, A6, ac7, R8, mv9, hN12⟩ a fr
  have ap_A6_b1 : Apart A6 b1 := moved_apart mv9 ap_A_b1 B4.lt
  have gA_A6 := gA_moved hF mv9 gA_A
  replace B4 := B4.only hN12 (fun h => h.elim (by first | exact ne_b1_bw | exact ne_bw_b1.symm | (show ¬ b1 = bw; omega)) (fun h => h.elim (by first | exact ne_b1_be | exact ne_be_b1.symm | (show ¬ b1 = be; omega)) (fun h => h.elim (by first | exact ne_b1_ig | exact ne_ig_b1.symm | (show ¬ b1 = ig; omega)) ap_A_b1)))
  replace hF := hF.locS hN12 (fun i => (fun h => h.elim (fun e => by rw [e]; exact (.inl (.inl rfl))) (fun h => h.elim (fun e => by rw [e]; exact (.inl (.inr (.inl rfl)))) (fun h => h.elim (fun e => by rw [e]; exact (.inl (.inr (.inr (.inl rfl))))) (fun h => gA_A i h)))))
  clear hW hE hH hI hQ hO
  obtain ⟨hW, hE, hH, hI, hQ, O10, hS⟩ := R8
  have ap_A6_bw := hS.ap_A_bw
  have ap_A6_be := hS.ap_A_be
  have ap_A6_bh := hS.ap_A_bh
  have ap_A6_bi := hS.ap_A_bi
  have ap_A6_ig := hS.ap_A_ig
  have ap2_Q_A6 := hS.ap2_Q_A
  refine wpList_nil ?_
  refine fx_end fr [] [] rfl trivial rfl ?_
  exact ⟨_, rfl, rfl, Q, qc, A6, ac7, ⟨hW, hE, hH, hI, hQ, O10, ⟨ne_bw_be, ne_bw_bh, ne_bw_bi, ne_bw_ig, ne_be_bh, ne_be_bi, ne_be_ig, ne_bh_bi, ne_bh_ig, ne_bi_ig, ap_Q_bw, ap_Q_be, ap_Q_bh, ap_Q_bi, ap_Q_ig, ap_A6_bw, ap_A6_be, ap_A6_bh, ap_A6_bi, ap_A6_ig, ap2_Q_A6⟩⟩, hmv gA_A6 ap_A6_bw ap_A6_be ap_A6_ig, hmv gA_Q ap_Q_bw ap_Q_be ap_Q_ig, hF⟩
set_option maxRecDepth 100000 in
set_option maxHeartbeats 4000000 in
theorem req_b {w : World} {bw be bh bi ig cap r : Nat} {o : Int} {sh : Sh} {asks : Int} {kind : Int} {waits : Int} {told : Bool} {q : List Msg} {Q : Option Addr} {qc : Nat} {A : Option Addr} {ac : Nat} {out : List Msg} {bs : List UInt8} (m : Msg) (R : WorkR w bw be bh bi ig cap r m.line (Ent.mk o sh true asks kind waits told q) Q qc A ac out bs) (hlen : out.length + 8 ≤ 1000000) (hsrc : 0 ≤ m.src ∧ m.src < 4) (OQ : Own msgE w Q qc q) (hql : q.length ≤ 1000000) : Calls Try.prog 32 #[.pointer (some ⟨bw, 0, none⟩), .agg (msgE.arr m)] w (Ret fun v w' => v = .tuple #[] ∧ HRet w w' bw be bh bi ig cap r m.line Q A out ({ (Ent.mk o sh true asks kind waits told q) with q := q ++ [m] }, bs, ([] : List Msg))) := by
  obtain ⟨hW, hE, hH, hI, hQ, hO, hS⟩ := R
  have ne_bw_be := hS.ne_bw_be
  have ne_bw_bh := hS.ne_bw_bh
  have ne_bw_bi := hS.ne_bw_bi
  have ne_bw_ig := hS.ne_bw_ig
  have ne_be_bh := hS.ne_be_bh
  have ne_be_bi := hS.ne_be_bi
  have ne_be_ig := hS.ne_be_ig
  have ne_bh_bi := hS.ne_bh_bi
  have ne_bh_ig := hS.ne_bh_ig
  have ne_bi_ig := hS.ne_bi_ig
  have ap_Q_bw := hS.ap_Q_bw
  have ap_Q_be := hS.ap_Q_be
  have ap_Q_bh := hS.ap_Q_bh
  have ap_Q_bi := hS.ap_Q_bi
  have ap_Q_ig := hS.ap_Q_ig
  have ap_A_bw := hS.ap_A_bw
  have ap_A_be := hS.ap_A_be
  have ap_A_bh := hS.ap_A_bh
  have ap_A_bi := hS.ap_A_bi
  have ap_A_ig := hS.ap_A_ig
  have ap2_Q_A := hS.ap2_Q_A
  have gA_A : ∀ g, inA A g → (g = bw ∨ g = be ∨ g = ig ∨ inA A g ∨ inA Q g) ∨ w.heap.size ≤ g := fun g hg => .inl (.inr (.inr (.inr (.inl hg))))
  have hmn := m.hn
  have gA_Q : ∀ g, inA Q g → (g = bw ∨ g = be ∨ g = ig ∨ inA A g ∨ inA Q g) ∨ w.heap.size ≤ g := fun g hg => .inl (.inr (.inr (.inr (.inr hg))))
  clear hQ
  have hF := Only.refl (fun k => k = bw ∨ k = be ∨ k = ig ∨ inA A k ∨ inA Q k) w
  refine fx_enter Try.func32 rfl (N := (30, [])) (T := [(0, .pointer (some ⟨bw, 0, none⟩)), (1, .agg (msgE.arr m))]) rfl (show 2 ≤ 30 by decide) ⟨rfl, rfl, trivial⟩ fun a fr => ?_
  refine wp_seq ?_
  refine wp_region_lit ?_  -- region 0
  refine fx_new fr rfl rfl (by first | decide | simp) (x_box (cs := msgE.arr m) rfl (fr.ev rfl) rfl) ?_
  clear fr a
  intro b1 w2 hN3 B4 hb5 a fr
  have ne_bw_b1 : NE bw b1 := NE.mk (Nat.lt_of_lt_of_le hW.lt hb5)
  have ne_be_b1 : NE be b1 := NE.mk (Nat.lt_of_lt_of_le hE.lt hb5)
  have ne_bh_b1 : NE bh b1 := NE.mk (Nat.lt_of_lt_of_le hH.lt hb5)
  have ne_bi_b1 : NE bi b1 := NE.mk (Nat.lt_of_lt_of_le hI.lt.1 hb5)
  have ne_ig_b1 : NE ig b1 := NE.mk (Nat.lt_of_lt_of_le hI.lt.2 hb5)
  have ap_A_b1 : Apart A b1 := hO.apart hb5
  have ap_Q_b1 : Apart Q b1 := OQ.apart hb5
  have g_b1 := Nat.le_trans hF.size hb5
  replace hW := hW.new hN3
  replace hE := hE.new hN3
  replace hH := hH.new hN3
  replace hI := hI.new hN3
  replace hO := hO.new hN3
  replace OQ := OQ.new hN3
  replace hF := hF.trNew hN3
  refine wpList_nil ?_
  refine fx_next ?_
  refine wp_seq ?_
  refine wp_seq ?_
  refine wp_region_lit ?_  -- region 1
  refine fx_val (v := .pointer (some ⟨bw, 0, none⟩)) fr rfl rfl (by first | decide | simp) (x_move rfl (fr.ev rfl)) ?_
  clear fr a; intro a fr
  refine fx_val (v := .pointer (some ⟨bw, 0, none⟩)) fr rfl rfl (by first | decide | simp) (x_nilCheck rfl (fr.ev rfl)) ?_
  clear fr a; intro a fr
  refine fx_val (v := .pointer (some ⟨bw, 1, none⟩)) fr rfl rfl (by first | decide | simp) (x_fieldAddr fo82_1 rfl (fr.ev rfl) rfl) ?_
  clear fr a; intro a fr
  refine fx_val (v := .pointer (some ⟨be, 0, none⟩)) fr rfl rfl (by first | decide | simp) (x_load1 pl78 rfl (fr.ev rfl) (hW.cell 1 rfl)) ?_
  clear fr a; intro a fr
  refine fx_val (v := .pointer (some ⟨be, 0, none⟩)) fr rfl rfl (by first | decide | simp) (x_nilCheck rfl (fr.ev rfl)) ?_
  clear fr a; intro a fr
  refine fx_val (v := .pointer (some ⟨be, 5, none⟩)) fr rfl rfl (by first | decide | simp) (x_fieldAddr fo42_2 rfl (fr.ev rfl) rfl) ?_
  clear fr a; intro a fr
  refine fx_val (v := .bool true) fr rfl rfl (by first | decide | simp) (x_load1 pl4 rfl (fr.ev rfl) (hE.cell 5 rfl)) ?_
  clear fr a; intro a fr
  refine wpList_nil ?_
  refine fx_next ?_
  refine fx_cond_t fr rfl ?_
  refine wp_seq ?_
  refine fx_heldT (n := 14) (k := 14) (fun w => Blk w bw 82 #[.slice A out.length ac, .pointer (some ⟨be, 0, none⟩), .pointer (some ⟨bh, 0, none⟩), .int .u32 m.line] ∧ Blk w be 42 (entA (Ent.mk o sh true asks kind waits told q) (.slice Q q.length qc)) ∧ Blk w bh 64 #[.pointer (some ⟨bi, 0, none⟩), .map (some r)] ∧ Img 0 w bi ig cap bs ∧ Blk w b1 36 (msgE.arr m) ∧ True) (by kernel_rfl) (by kernel_rfl) rfl ?_  -- region 2
  intro w6 hN7
  replace hW := hW.new hN7
  replace hE := hE.new hN7
  replace hH := hH.new hN7
  replace hI := hI.new hN7
  replace hO := hO.new hN7
  replace OQ := OQ.new hN7
  replace B4 := B4.new hN7
  replace hF := hF.trNew hN7
  refine fx_take (i := 0) (v := .pointer (some ⟨bw, 0, none⟩)) fr rfl (by kernel_rfl) rfl rfl (by first | decide | simp) (fun _ _ _ h => h) (fun _ ⟨hW, hE, hH, hI, B4, _⟩ => x_move rfl (fr.ev rfl)) ⟨hW, hE, hH, hI, B4, trivial⟩ ?_
  clear fr a; intro a fr
  refine fx_take (i := 1) (v := .pointer (some ⟨bw, 0, none⟩)) fr rfl (by kernel_rfl) rfl rfl (by first | decide | simp) (fun _ _ _ h => h) (fun _ ⟨hW, hE, hH, hI, B4, _⟩ => x_nilCheck rfl (fr.ev rfl)) ⟨hW, hE, hH, hI, B4, trivial⟩ ?_
  clear fr a; intro a fr
  refine fx_take (i := 2) (v := .pointer (some ⟨bw, 1, none⟩)) fr rfl (by kernel_rfl) rfl rfl (by first | decide | simp) (fun _ _ _ h => h) (fun _ ⟨hW, hE, hH, hI, B4, _⟩ => x_fieldAddr fo82_1 rfl (fr.ev rfl) rfl) ⟨hW, hE, hH, hI, B4, trivial⟩ ?_
  clear fr a; intro a fr
  refine fx_take (i := 3) (v := .pointer (some ⟨be, 0, none⟩)) fr rfl (by kernel_rfl) rfl rfl (by first | decide | simp) (fun _ _ _ h => h) (fun _ ⟨hW, hE, hH, hI, B4, _⟩ => x_load1 pl78 rfl (fr.ev rfl) (hW.cell 1 rfl)) ⟨hW, hE, hH, hI, B4, trivial⟩ ?_
  clear fr a; intro a fr
  refine fx_take (i := 4) (v := .pointer (some ⟨bw, 0, none⟩)) fr rfl (by kernel_rfl) rfl rfl (by first | decide | simp) (fun _ _ _ h => h) (fun _ ⟨hW, hE, hH, hI, B4, _⟩ => x_move rfl (fr.ev rfl)) ⟨hW, hE, hH, hI, B4, trivial⟩ ?_
  clear fr a; intro a fr
  refine fx_take (i := 5) (v := .pointer (some ⟨bw, 0, none⟩)) fr rfl (by kernel_rfl) rfl rfl (by first | decide | simp) (fun _ _ _ h => h) (fun _ ⟨hW, hE, hH, hI, B4, _⟩ => x_nilCheck rfl (fr.ev rfl)) ⟨hW, hE, hH, hI, B4, trivial⟩ ?_
  clear fr a; intro a fr
  refine fx_take (i := 6) (v := .pointer (some ⟨bw, 1, none⟩)) fr rfl (by kernel_rfl) rfl rfl (by first | decide | simp) (fun _ _ _ h => h) (fun _ ⟨hW, hE, hH, hI, B4, _⟩ => x_fieldAddr fo82_1 rfl (fr.ev rfl) rfl) ⟨hW, hE, hH, hI, B4, trivial⟩ ?_
  clear fr a; intro a fr
  refine fx_take (i := 7) (v := .pointer (some ⟨be, 0, none⟩)) fr rfl (by kernel_rfl) rfl rfl (by first | decide | simp) (fun _ _ _ h => h) (fun _ ⟨hW, hE, hH, hI, B4, _⟩ => x_load1 pl78 rfl (fr.ev rfl) (hW.cell 1 rfl)) ⟨hW, hE, hH, hI, B4, trivial⟩ ?_
  clear fr a; intro a fr
  refine fx_take (i := 8) (v := .pointer (some ⟨be, 0, none⟩)) fr rfl (by kernel_rfl) rfl rfl (by first | decide | simp) (fun _ _ _ h => h) (fun _ ⟨hW, hE, hH, hI, B4, _⟩ => x_nilCheck rfl (fr.ev rfl)) ⟨hW, hE, hH, hI, B4, trivial⟩ ?_
  clear fr a; intro a fr
  refine fx_take (i := 9) (v := .pointer (some ⟨be, 10, none⟩)) fr rfl (by kernel_rfl) rfl rfl (by first | decide | simp) (fun _ _ _ h => h) (fun _ ⟨hW, hE, hH, hI, B4, _⟩ => x_fieldAddr fo42_7 rfl (fr.ev rfl) rfl) ⟨hW, hE, hH, hI, B4, trivial⟩ ?_
  clear fr a; intro a fr
  refine fx_take (i := 10) (v := .slice Q q.length qc) fr rfl (by kernel_rfl) rfl rfl (by first | decide | simp) (fun _ _ _ h => h) (fun _ ⟨hW, hE, hH, hI, B4, _⟩ => x_load1 pl23 rfl (fr.ev rfl) (hE.cell 10 rfl)) ⟨hW, hE, hH, hI, B4, trivial⟩ ?_
  clear fr a; intro a fr
  refine fx_take (i := 11) (v := .agg (msgE.arr m)) fr rfl (by kernel_rfl) rfl rfl (by first | decide | simp) (fun _ _ _ h => h) (fun _ ⟨hW, hE, hH, hI, B4, _⟩ => x_loadE (E := msgE) ag36 rfl rfl (fr.ev rfl) (B4.rangeE msgE)) ⟨hW, hE, hH, hI, B4, trivial⟩ ?_
  clear fr a; intro a fr
  refine fx_one (i := 12) (by kernel_rfl) (fx_op rfl ?_)
  refine fx_build1 (E := msgE) (p := m) elMsg (by decide) fr rfl rfl (by decide) rfl (fr.ev rfl) ?_
  clear fr a
  intro A8 w9 hN10 O11 hA12 a fr
  have ap_A8_bw : Apart A8 bw := new_apart hA12 hW.lt
  have ap_A8_be : Apart A8 be := new_apart hA12 hE.lt
  have ap_A8_bh : Apart A8 bh := new_apart hA12 hH.lt
  have ap_A8_bi : Apart A8 bi := new_apart hA12 hI.lt.1
  have ap_A8_ig : Apart A8 ig := new_apart hA12 hI.lt.2
  have ap2_A_A8 : Apart2 A A8 := (new_apart2 hA12 fun _ hg => hO.lt hg).symm
  have ap2_Q_A8 : Apart2 Q A8 := (new_apart2 hA12 fun _ hg => OQ.lt hg).symm
  have ap_A8_b1 : Apart A8 b1 := new_apart hA12 B4.lt
  have gA_A8 := gA_new hF hA12
  replace hW := hW.new hN10
  replace hE := hE.new hN10
  replace hH := hH.new hN10
  replace hI := hI.new hN10
  replace hO := hO.new hN10
  replace OQ := OQ.new hN10
  replace B4 := B4.new hN10
  replace hF := hF.trNew hN10
  refine wpList_nil ?_
  refine ⟨⟨hW, hE, hH, hI, B4, trivial⟩, ?_⟩
  refine fx_one (i := 13) (by kernel_rfl) (fx_op rfl ?_)
  refine fx_append (E := msgE) (l := q) (l' := [m]) elMsg fr rfl rfl (by decide) rfl (fr.ev rfl) (fr.ev rfl) (by first | rfl | (simp; done) | (simp; omega)) (by first | rfl | (simp; done) | (simp; omega)) OQ O11.view (by first | omega | (simp only [List.length_append, List.length_cons, List.length_nil]; omega)) (by first | (unfold maxLen; done) | (unfold maxLen; first | omega | (simp only [List.length_append, List.length_cons, List.length_nil]; omega) | (simp; done) | (simp; omega))) ?_
  clear fr a
  intro A13 cap14 w15 O16 hO17 mv18 a fr
  have ap_A13_bw : Apart A13 bw := moved_apart mv18 ap_Q_bw hW.lt
  have ap_A13_be : Apart A13 be := moved_apart mv18 ap_Q_be hE.lt
  have ap_A13_bh : Apart A13 bh := moved_apart mv18 ap_Q_bh hH.lt
  have ap_A13_bi : Apart A13 bi := moved_apart mv18 ap_Q_bi hI.lt.1
  have ap_A13_ig : Apart A13 ig := moved_apart mv18 ap_Q_ig hI.lt.2
  have ap2_A13_A : Apart2 A13 A := moved_apart2 mv18 ap2_Q_A fun _ hg => hO.lt hg
  have ap_A13_b1 : Apart A13 b1 := moved_apart mv18 ap_Q_b1 B4.lt
  have ap2_A13_A8 : Apart2 A13 A8 := moved_apart2 mv18 ap2_Q_A8 fun _ hg => O11.lt hg
  have gA_A13 := gA_moved hF mv18 gA_Q
  replace hW := hW.only hO17 ap_Q_bw
  replace hE := hE.only hO17 ap_Q_be
  replace hH := hH.only hO17 ap_Q_bh
  replace hI := hI.only hO17 ap_Q_bi ap_Q_ig
  replace hO := hO.only hO17 (fun g h1 h2 => ap2_Q_A.symm g h1 h2)
  replace B4 := B4.only hO17 ap_Q_b1
  replace O11 := O11.only hO17 (fun g h1 h2 => ap2_Q_A8.symm g h1 h2)
  replace hF := hF.locA hO17 gA_Q
  clear OQ
  refine wpList_nil ?_
  refine ⟨⟨hW, hE, hH, hI, B4, trivial⟩, ?_⟩
  refine fx_hdone (by kernel_rfl) ?_
  refine fx_tail ?_
  refine fx_val (v := .pointer (some ⟨be, 0, none⟩)) fr rfl rfl (by first | decide | simp) (x_nilCheck rfl (fr.ev rfl)) ?_
  clear fr a; intro a fr
  refine fx_val (v := .pointer (some ⟨be, 10, none⟩)) fr rfl rfl (by first | decide | simp) (x_fieldAddr fo42_7 rfl (fr.ev rfl) rfl) ?_
  clear fr a; intro a fr
  refine fx_store1 sz23 rfl rfl rfl (fr.ev rfl) (fr.ev rfl) rfl hE (show 10 < 11 by decide) (cs' := entA ({ (Ent.mk o sh true asks kind waits told q) with q := q ++ ([m]) }) (.slice A13 ((q ++ ([m])).length) cap14)) rfl fun w19 hO20 hBq => ?_
  replace hW := hW.only hO20 (by first | exact ne_bw_be | exact ne_be_bw.symm | (show ¬ bw = be; omega))
  replace hH := hH.only hO20 (by first | exact ne_bh_be | exact ne_be_bh.symm | (show ¬ bh = be; omega))
  replace hI := hI.only hO20 (by first | exact ne_bi_be | exact ne_be_bi.symm | (show ¬ bi = be; omega)) (by first | exact ne_ig_be | exact ne_be_ig.symm | (show ¬ ig = be; omega))
  replace hO := hO.only hO20 (Apart.ne1 ap_A_be)
  replace B4 := B4.only hO20 (by first | exact ne_b1_be | exact ne_be_b1.symm | (show ¬ b1 = be; omega))
  replace O11 := O11.only hO20 (Apart.ne1 ap_A8_be)
  replace O16 := O16.only hO20 (Apart.ne1 ap_A13_be)
  replace hF := hF.loc hO20 (.inl (.inr (.inl rfl)))
  replace hE := hBq
  clear hBq
  refine wpList_nil ?_
  refine fx_next ?_
  refine wp_ret ?_
  refine fx_rt ?_
  refine fx_ret fr [] [] rfl trivial rfl ?_
  refine ⟨_, rfl, rfl, ?_⟩
  unfold HRet
  rw [List.append_nil]
  exact ⟨A13, cap14, A, ac, ⟨hW, hE, hH, hI, O16.view, hO, ⟨ne_bw_be, ne_bw_bh, ne_bw_bi, ne_bw_ig, ne_be_bh, ne_be_bi, ne_be_ig, ne_bh_bi, ne_bh_ig, ne_bi_ig, ap_A13_bw, ap_A13_be, ap_A13_bh, ap_A13_bi, ap_A13_ig, ap_A_bw, ap_A_be, ap_A_bh, ap_A_bi, ap_A_ig, ap2_A13_A⟩⟩, fun _ hk => .inl (.inl hk), hmv gA_A13 ap_A13_bw ap_A13_be ap_A13_ig, hF⟩
set_option maxRecDepth 100000 in
set_option maxHeartbeats 4000000 in
theorem back_ok {w : World} {bw be bh bi ig cap r : Nat} {o : Int} {sh : Sh} {asks : Int} {kind : Int} {waits : Int} {told : Bool} {q : List Msg} {Q : Option Addr} {qc : Nat} {A : Option Addr} {ac : Nat} {out : List Msg} {bs : List UInt8} (m : Msg) (R : WorkR w bw be bh bi ig cap r m.line (Ent.mk o sh true asks kind waits told q) Q qc A ac out bs) (hlen : out.length + 8 ≤ 1000000) (hsrc : 0 ≤ m.src ∧ m.src < 4) (hask : 0 ≤ asks ∧ asks < 4) (hk : m.kind = 11) (hw : 0 < waits) (ho : o = m.src) (hkk : kind = 1 ∨ kind = 2) : Calls Try.prog 33 #[.pointer (some ⟨bw, 0, none⟩), .agg (msgE.arr m)] w (Ret fun v w' => v = .tuple #[] ∧ HRet w w' bw be bh bi ig cap r m.line Q A out (otherF bs (Ent.mk o sh true asks kind waits told q) m)) := by
  obtain ⟨hW, hE, hH, hI, hQ, hO, hS⟩ := R
  have ne_bw_be := hS.ne_bw_be
  have ne_bw_bh := hS.ne_bw_bh
  have ne_bw_bi := hS.ne_bw_bi
  have ne_bw_ig := hS.ne_bw_ig
  have ne_be_bh := hS.ne_be_bh
  have ne_be_bi := hS.ne_be_bi
  have ne_be_ig := hS.ne_be_ig
  have ne_bh_bi := hS.ne_bh_bi
  have ne_bh_ig := hS.ne_bh_ig
  have ne_bi_ig := hS.ne_bi_ig
  have ap_Q_bw := hS.ap_Q_bw
  have ap_Q_be := hS.ap_Q_be
  have ap_Q_bh := hS.ap_Q_bh
  have ap_Q_bi := hS.ap_Q_bi
  have ap_Q_ig := hS.ap_Q_ig
  have ap_A_bw := hS.ap_A_bw
  have ap_A_be := hS.ap_A_be
  have ap_A_bh := hS.ap_A_bh
  have ap_A_bi := hS.ap_A_bi
  have ap_A_ig := hS.ap_A_ig
  have ap2_Q_A := hS.ap2_Q_A
  have gA_A : ∀ g, inA A g → (g = bw ∨ g = be ∨ g = ig ∨ inA A g ∨ inA Q g) ∨ w.heap.size ≤ g := fun g hg => .inl (.inr (.inr (.inr (.inl hg))))
  have hmn := m.hn
  have gA_Q : ∀ g, inA Q g → (g = bw ∨ g = be ∨ g = ig ∨ inA A g ∨ inA Q g) ∨ w.heap.size ≤ g := fun g hg => .inl (.inr (.inr (.inr (.inr hg))))
  have hF := Only.refl (fun k => k = bw ∨ k = be ∨ k = ig ∨ inA A k ∨ inA Q k) w
  refine fx_enter Try.func33 rfl (N := (104, [])) (T := [(0, .pointer (some ⟨bw, 0, none⟩)), (1, .agg (msgE.arr m))]) rfl (show 2 ≤ 104 by decide) ⟨rfl, rfl, trivial⟩ fun a fr => ?_
  refine wp_seq ?_
  refine wp_region_lit ?_  -- region 0
  refine fx_new fr rfl rfl (by first | decide | simp) (x_box (cs := msgE.arr m) rfl (fr.ev rfl) rfl) ?_
  clear fr a
  intro b1 w2 hN3 B4 hb5 a fr
  have ne_bw_b1 : NE bw b1 := NE.mk (Nat.lt_of_lt_of_le hW.lt hb5)
  have ne_be_b1 : NE be b1 := NE.mk (Nat.lt_of_lt_of_le hE.lt hb5)
  have ne_bh_b1 : NE bh b1 := NE.mk (Nat.lt_of_lt_of_le hH.lt hb5)
  have ne_bi_b1 : NE bi b1 := NE.mk (Nat.lt_of_lt_of_le hI.lt.1 hb5)
  have ne_ig_b1 : NE ig b1 := NE.mk (Nat.lt_of_lt_of_le hI.lt.2 hb5)
  have ap_Q_b1 : Apart Q b1 := hQ.apart hb5
  have ap_A_b1 : Apart A b1 := hO.apart hb5
  have g_b1 := Nat.le_trans hF.size hb5
  replace hW := hW.new hN3
  replace hE := hE.new hN3
  replace hH := hH.new hN3
  replace hI := hI.new hN3
  replace hQ := hQ.new hN3
  replace hO := hO.new hN3
  replace hF := hF.trNew hN3
  refine wpList_nil ?_
  refine fx_next ?_
  refine wp_seq ?_
  refine fx_held (n := 30) (fun w => Blk w bw 82 #[.slice A out.length ac, .pointer (some ⟨be, 0, none⟩), .pointer (some ⟨bh, 0, none⟩), .int .u32 m.line] ∧ Blk w be 42 (entA (Ent.mk o sh true asks kind waits told q) (.slice Q q.length qc)) ∧ Blk w bh 64 #[.pointer (some ⟨bi, 0, none⟩), .map (some r)] ∧ Img 0 w bi ig cap bs ∧ View msgE w Q qc q ∧ Own msgE w A ac out ∧ Blk w b1 36 (msgE.arr m) ∧ True) (by kernel_rfl) rfl ?_  -- region 1
  intro w6 hN7
  replace hW := hW.new hN7
  replace hE := hE.new hN7
  replace hH := hH.new hN7
  replace hI := hI.new hN7
  replace hQ := hQ.new hN7
  replace hO := hO.new hN7
  replace B4 := B4.new hN7
  replace hF := hF.trNew hN7
  refine fx_take (i := 0) (v := .pointer (some ⟨bw, 0, none⟩)) fr rfl (by kernel_rfl) rfl rfl (by first | decide | simp) (fun _ _ _ h => h) (fun _ ⟨hW, hE, hH, hI, hQ, hO, B4, _⟩ => x_move rfl (fr.ev rfl)) ⟨hW, hE, hH, hI, hQ, hO, B4, trivial⟩ ?_
  clear fr a; intro a fr
  refine fx_take (i := 1) (v := .pointer (some ⟨bw, 0, none⟩)) fr rfl (by kernel_rfl) rfl rfl (by first | decide | simp) (fun _ _ _ h => h) (fun _ ⟨hW, hE, hH, hI, hQ, hO, B4, _⟩ => x_nilCheck rfl (fr.ev rfl)) ⟨hW, hE, hH, hI, hQ, hO, B4, trivial⟩ ?_
  clear fr a; intro a fr
  refine fx_take (i := 2) (v := .pointer (some ⟨bw, 1, none⟩)) fr rfl (by kernel_rfl) rfl rfl (by first | decide | simp) (fun _ _ _ h => h) (fun _ ⟨hW, hE, hH, hI, hQ, hO, B4, _⟩ => x_fieldAddr fo82_1 rfl (fr.ev rfl) rfl) ⟨hW, hE, hH, hI, hQ, hO, B4, trivial⟩ ?_
  clear fr a; intro a fr
  refine fx_take (i := 3) (v := .pointer (some ⟨be, 0, none⟩)) fr rfl (by kernel_rfl) rfl rfl (by first | decide | simp) (fun _ _ _ h => h) (fun _ ⟨hW, hE, hH, hI, hQ, hO, B4, _⟩ => x_load1 pl78 rfl (fr.ev rfl) (hW.cell 1 rfl)) ⟨hW, hE, hH, hI, hQ, hO, B4, trivial⟩ ?_
  clear fr a; intro a fr
  refine fx_take (i := 4) (v := .pointer (some ⟨be, 0, none⟩)) fr rfl (by kernel_rfl) rfl rfl (by first | decide | simp) (fun _ _ _ h => h) (fun _ ⟨hW, hE, hH, hI, hQ, hO, B4, _⟩ => x_nilCheck rfl (fr.ev rfl)) ⟨hW, hE, hH, hI, hQ, hO, B4, trivial⟩ ?_
  clear fr a; intro a fr
  refine fx_take (i := 5) (v := .pointer (some ⟨be, 5, none⟩)) fr rfl (by kernel_rfl) rfl rfl (by first | decide | simp) (fun _ _ _ h => h) (fun _ ⟨hW, hE, hH, hI, hQ, hO, B4, _⟩ => x_fieldAddr fo42_2 rfl (fr.ev rfl) rfl) ⟨hW, hE, hH, hI, hQ, hO, B4, trivial⟩ ?_
  clear fr a; intro a fr
  refine fx_take (i := 6) (v := .bool true) fr rfl (by kernel_rfl) rfl rfl (by first | decide | simp) (fun _ _ _ h => h) (fun _ ⟨hW, hE, hH, hI, hQ, hO, B4, _⟩ => x_load1 pl4 rfl (fr.ev rfl) (hE.cell 5 rfl)) ⟨hW, hE, hH, hI, hQ, hO, B4, trivial⟩ ?_
  clear fr a; intro a fr
  refine fx_take (i := 7) (v := .bool true) fr rfl (by kernel_rfl) rfl rfl (by first | decide | simp) (fun _ _ _ h => h) (fun _ ⟨hW, hE, hH, hI, hQ, hO, B4, _⟩ => x_move rfl (fr.ev rfl)) ⟨hW, hE, hH, hI, hQ, hO, B4, trivial⟩ ?_
  clear fr a; intro a fr
  refine fx_take (i := 8) (v := .pointer (some ⟨bw, 0, none⟩)) fr rfl (by kernel_rfl) (fr.want rfl rfl rfl) rfl (by first | decide | simp) (fun _ _ _ h => h) (fun _ ⟨hW, hE, hH, hI, hQ, hO, B4, _⟩ => x_move rfl (fr.ev rfl)) ⟨hW, hE, hH, hI, hQ, hO, B4, trivial⟩ ?_
  clear fr a; intro a fr
  refine fx_take (i := 9) (v := .pointer (some ⟨bw, 0, none⟩)) fr rfl (by kernel_rfl) (fr.want rfl rfl rfl) rfl (by first | decide | simp) (fun _ _ _ h => h) (fun _ ⟨hW, hE, hH, hI, hQ, hO, B4, _⟩ => x_nilCheck rfl (fr.ev rfl)) ⟨hW, hE, hH, hI, hQ, hO, B4, trivial⟩ ?_
  clear fr a; intro a fr
  refine fx_take (i := 10) (v := .pointer (some ⟨bw, 1, none⟩)) fr rfl (by kernel_rfl) (fr.want rfl rfl rfl) rfl (by first | decide | simp) (fun _ _ _ h => h) (fun _ ⟨hW, hE, hH, hI, hQ, hO, B4, _⟩ => x_fieldAddr fo82_1 rfl (fr.ev rfl) rfl) ⟨hW, hE, hH, hI, hQ, hO, B4, trivial⟩ ?_
  clear fr a; intro a fr
  refine fx_take (i := 11) (v := .pointer (some ⟨be, 0, none⟩)) fr rfl (by kernel_rfl) (fr.want rfl rfl rfl) rfl (by first | decide | simp) (fun _ _ _ h => h) (fun _ ⟨hW, hE, hH, hI, hQ, hO, B4, _⟩ => x_load1 pl78 rfl (fr.ev rfl) (hW.cell 1 rfl)) ⟨hW, hE, hH, hI, hQ, hO, B4, trivial⟩ ?_
  clear fr a; intro a fr
  refine fx_take (i := 12) (v := .pointer (some ⟨be, 0, none⟩)) fr rfl (by kernel_rfl) (fr.want rfl rfl rfl) rfl (by first | decide | simp) (fun _ _ _ h => h) (fun _ ⟨hW, hE, hH, hI, hQ, hO, B4, _⟩ => x_nilCheck rfl (fr.ev rfl)) ⟨hW, hE, hH, hI, hQ, hO, B4, trivial⟩ ?_
  clear fr a; intro a fr
  refine fx_take (i := 13) (v := .pointer (some ⟨be, 8, none⟩)) fr rfl (by kernel_rfl) (fr.want rfl rfl rfl) rfl (by first | decide | simp) (fun _ _ _ h => h) (fun _ ⟨hW, hE, hH, hI, hQ, hO, B4, _⟩ => x_fieldAddr fo42_5 rfl (fr.ev rfl) rfl) ⟨hW, hE, hH, hI, hQ, hO, B4, trivial⟩ ?_
  clear fr a; intro a fr
  refine fx_take (i := 14) (v := .int .i64 waits) fr rfl (by kernel_rfl) (fr.want rfl rfl rfl) rfl (by first | decide | simp) (fun _ _ _ h => h) (fun _ ⟨hW, hE, hH, hI, hQ, hO, B4, _⟩ => x_load1 pl3 rfl (fr.ev rfl) (hE.cell 8 rfl)) ⟨hW, hE, hH, hI, hQ, hO, B4, trivial⟩ ?_
  clear fr a; intro a fr
  refine fx_take (i := 15) (v := .bool true) fr rfl (by kernel_rfl) (fr.want rfl rfl rfl) rfl (by first | decide | simp) (fun _ _ _ h => h) (fun _ ⟨hW, hE, hH, hI, hQ, hO, B4, _⟩ => x_gtr rfl (fr.ev rfl) rfl (decide_eq_true hw)) ⟨hW, hE, hH, hI, hQ, hO, B4, trivial⟩ ?_
  clear fr a; intro a fr
  refine fx_take (i := 16) (v := .bool true) fr rfl (by kernel_rfl) rfl rfl (by first | decide | simp) (fun _ _ _ h => h) (fun _ ⟨hW, hE, hH, hI, hQ, hO, B4, _⟩ => x_pick_t rfl (fr.ev rfl) (fr.ev rfl)) ⟨hW, hE, hH, hI, hQ, hO, B4, trivial⟩ ?_
  clear fr a; intro a fr
  refine fx_take (i := 17) (v := .bool true) fr rfl (by kernel_rfl) rfl rfl (by first | decide | simp) (fun _ _ _ h => h) (fun _ ⟨hW, hE, hH, hI, hQ, hO, B4, _⟩ => x_move rfl (fr.ev rfl)) ⟨hW, hE, hH, hI, hQ, hO, B4, trivial⟩ ?_
  clear fr a; intro a fr
  refine fx_take (i := 18) (v := .pointer (some ⟨bw, 0, none⟩)) fr rfl (by kernel_rfl) (fr.want rfl rfl rfl) rfl (by first | decide | simp) (fun _ _ _ h => h) (fun _ ⟨hW, hE, hH, hI, hQ, hO, B4, _⟩ => x_move rfl (fr.ev rfl)) ⟨hW, hE, hH, hI, hQ, hO, B4, trivial⟩ ?_
  clear fr a; intro a fr
  refine fx_take (i := 19) (v := .pointer (some ⟨bw, 0, none⟩)) fr rfl (by kernel_rfl) (fr.want rfl rfl rfl) rfl (by first | decide | simp) (fun _ _ _ h => h) (fun _ ⟨hW, hE, hH, hI, hQ, hO, B4, _⟩ => x_nilCheck rfl (fr.ev rfl)) ⟨hW, hE, hH, hI, hQ, hO, B4, trivial⟩ ?_
  clear fr a; intro a fr
  refine fx_take (i := 20) (v := .pointer (some ⟨bw, 1, none⟩)) fr rfl (by kernel_rfl) (fr.want rfl rfl rfl) rfl (by first | decide | simp) (fun _ _ _ h => h) (fun _ ⟨hW, hE, hH, hI, hQ, hO, B4, _⟩ => x_fieldAddr fo82_1 rfl (fr.ev rfl) rfl) ⟨hW, hE, hH, hI, hQ, hO, B4, trivial⟩ ?_
  clear fr a; intro a fr
  refine fx_take (i := 21) (v := .pointer (some ⟨be, 0, none⟩)) fr rfl (by kernel_rfl) (fr.want rfl rfl rfl) rfl (by first | decide | simp) (fun _ _ _ h => h) (fun _ ⟨hW, hE, hH, hI, hQ, hO, B4, _⟩ => x_load1 pl78 rfl (fr.ev rfl) (hW.cell 1 rfl)) ⟨hW, hE, hH, hI, hQ, hO, B4, trivial⟩ ?_
  clear fr a; intro a fr
  refine fx_take (i := 22) (v := .pointer (some ⟨be, 0, none⟩)) fr rfl (by kernel_rfl) (fr.want rfl rfl rfl) rfl (by first | decide | simp) (fun _ _ _ h => h) (fun _ ⟨hW, hE, hH, hI, hQ, hO, B4, _⟩ => x_nilCheck rfl (fr.ev rfl)) ⟨hW, hE, hH, hI, hQ, hO, B4, trivial⟩ ?_
  clear fr a; intro a fr
  refine fx_take (i := 23) (v := .pointer (some ⟨be, 0, none⟩)) fr rfl (by kernel_rfl) (fr.want rfl rfl rfl) rfl (by first | decide | simp) (fun _ _ _ h => h) (fun _ ⟨hW, hE, hH, hI, hQ, hO, B4, _⟩ => x_fieldAddr fo42_0 rfl (fr.ev rfl) rfl) ⟨hW, hE, hH, hI, hQ, hO, B4, trivial⟩ ?_
  clear fr a; intro a fr
  refine fx_take (i := 24) (v := .int .i64 o) fr rfl (by kernel_rfl) (fr.want rfl rfl rfl) rfl (by first | decide | simp) (fun _ _ _ h => h) (fun _ ⟨hW, hE, hH, hI, hQ, hO, B4, _⟩ => x_load1 pl3 rfl (fr.ev rfl) (hE.cell 0 rfl)) ⟨hW, hE, hH, hI, hQ, hO, B4, trivial⟩ ?_
  clear fr a; intro a fr
  refine fx_take (i := 25) (v := .pointer (some ⟨b1, 1, none⟩)) fr rfl (by kernel_rfl) (fr.want rfl rfl rfl) rfl (by first | decide | simp) (fun _ _ _ h => h) (fun _ ⟨hW, hE, hH, hI, hQ, hO, B4, _⟩ => x_fieldAddr fo36_1 rfl (fr.ev rfl) rfl) ⟨hW, hE, hH, hI, hQ, hO, B4, trivial⟩ ?_
  clear fr a; intro a fr
  refine fx_take (i := 26) (v := .int .i64 m.src) fr rfl (by kernel_rfl) (fr.want rfl rfl rfl) rfl (by first | decide | simp) (fun _ _ _ h => h) (fun _ ⟨hW, hE, hH, hI, hQ, hO, B4, _⟩ => x_load1 pl3 rfl (fr.ev rfl) (B4.cell 1 rfl)) ⟨hW, hE, hH, hI, hQ, hO, B4, trivial⟩ ?_
  clear fr a; intro a fr
  refine fx_take (i := 27) (v := .bool true) fr rfl (by kernel_rfl) (fr.want rfl rfl rfl) rfl (by first | decide | simp) (fun _ _ _ h => h) (fun _ ⟨hW, hE, hH, hI, hQ, hO, B4, _⟩ => x_eql rfl (fr.ev rfl) (fr.ev rfl) (decide_eq_true ho)) ⟨hW, hE, hH, hI, hQ, hO, B4, trivial⟩ ?_
  clear fr a; intro a fr
  refine fx_take (i := 28) (v := .bool true) fr rfl (by kernel_rfl) rfl rfl (by first | decide | simp) (fun _ _ _ h => h) (fun _ ⟨hW, hE, hH, hI, hQ, hO, B4, _⟩ => x_pick_t rfl (fr.ev rfl) (fr.ev rfl)) ⟨hW, hE, hH, hI, hQ, hO, B4, trivial⟩ ?_
  clear fr a; intro a fr
  refine fx_one (i := 29) (by kernel_rfl) (fx_op rfl ?_)
  refine fx_call fr rfl rfl (by first | decide | simp) (x_call (vs := [.bool true, .int .i64 220]) rfl rfl ⟨(fr.ev rfl), rfl, trivial⟩ Try.func49 nm49 rfl) (must_ok 220 _) ?_
  clear fr a
  rintro v w9 ⟨rfl, hw9⟩ a fr
  obtain rfl := hw9.symm
  refine wpList_nil ?_
  refine ⟨⟨hW, hE, hH, hI, hQ, hO, B4, trivial⟩, ?_⟩
  refine fx_hdone (by kernel_rfl) ?_
  refine fx_next ?_
  refine wp_seq ?_
  refine fx_held (n := 14) (fun w => Blk w bw 82 #[.slice A out.length ac, .pointer (some ⟨be, 0, none⟩), .pointer (some ⟨bh, 0, none⟩), .int .u32 m.line] ∧ Blk w be 42 (entA (Ent.mk o sh true asks kind waits told q) (.slice Q q.length qc)) ∧ Blk w bh 64 #[.pointer (some ⟨bi, 0, none⟩), .map (some r)] ∧ View msgE w Q qc q ∧ Own msgE w A ac out ∧ Blk w b1 36 (msgE.arr m) ∧ True) (by kernel_rfl) rfl ?_  -- region 2
  intro w10 hN11
  replace hW := hW.new hN11
  replace hE := hE.new hN11
  replace hH := hH.new hN11
  replace hI := hI.new hN11
  replace hQ := hQ.new hN11
  replace hO := hO.new hN11
  replace B4 := B4.new hN11
  replace hF := hF.trNew hN11
  refine fx_take (i := 0) (v := .pointer (some ⟨bw, 0, none⟩)) fr rfl (by kernel_rfl) rfl rfl (by first | decide | simp) (fun _ _ _ h => h) (fun _ ⟨hW, hE, hH, hQ, hO, B4, _⟩ => x_move rfl (fr.ev rfl)) ⟨hW, hE, hH, hQ, hO, B4, trivial⟩ ?_
  clear fr a; intro a fr
  refine fx_take (i := 1) (v := .pointer (some ⟨bw, 0, none⟩)) fr rfl (by kernel_rfl) rfl rfl (by first | decide | simp) (fun _ _ _ h => h) (fun _ ⟨hW, hE, hH, hQ, hO, B4, _⟩ => x_nilCheck rfl (fr.ev rfl)) ⟨hW, hE, hH, hQ, hO, B4, trivial⟩ ?_
  clear fr a; intro a fr
  refine fx_take (i := 2) (v := .pointer (some ⟨bw, 2, none⟩)) fr rfl (by kernel_rfl) rfl rfl (by first | decide | simp) (fun _ _ _ h => h) (fun _ ⟨hW, hE, hH, hQ, hO, B4, _⟩ => x_fieldAddr fo82_2 rfl (fr.ev rfl) rfl) ⟨hW, hE, hH, hQ, hO, B4, trivial⟩ ?_
  clear fr a; intro a fr
  refine fx_take (i := 3) (v := .pointer (some ⟨bh, 0, none⟩)) fr rfl (by kernel_rfl) rfl rfl (by first | decide | simp) (fun _ _ _ h => h) (fun _ ⟨hW, hE, hH, hQ, hO, B4, _⟩ => x_load1 pl25 rfl (fr.ev rfl) (hW.cell 2 rfl)) ⟨hW, hE, hH, hQ, hO, B4, trivial⟩ ?_
  clear fr a; intro a fr
  refine fx_take (i := 4) (v := .pointer (some ⟨bh, 0, none⟩)) fr rfl (by kernel_rfl) rfl rfl (by first | decide | simp) (fun _ _ _ h => h) (fun _ ⟨hW, hE, hH, hQ, hO, B4, _⟩ => x_nilCheck rfl (fr.ev rfl)) ⟨hW, hE, hH, hQ, hO, B4, trivial⟩ ?_
  clear fr a; intro a fr
  refine fx_take (i := 5) (v := .pointer (some ⟨bh, 0, none⟩)) fr rfl (by kernel_rfl) rfl rfl (by first | decide | simp) (fun _ _ _ h => h) (fun _ ⟨hW, hE, hH, hQ, hO, B4, _⟩ => x_fieldAddr fo64_0 rfl (fr.ev rfl) rfl) ⟨hW, hE, hH, hQ, hO, B4, trivial⟩ ?_
  clear fr a; intro a fr
  refine fx_take (i := 6) (v := .pointer (some ⟨bi, 0, none⟩)) fr rfl (by kernel_rfl) rfl rfl (by first | decide | simp) (fun _ _ _ h => h) (fun _ ⟨hW, hE, hH, hQ, hO, B4, _⟩ => x_load1 pl61 rfl (fr.ev rfl) (hH.cell 0 rfl)) ⟨hW, hE, hH, hQ, hO, B4, trivial⟩ ?_
  clear fr a; intro a fr
  refine fx_take (i := 7) (v := .pointer (some ⟨bw, 0, none⟩)) fr rfl (by kernel_rfl) rfl rfl (by first | decide | simp) (fun _ _ _ h => h) (fun _ ⟨hW, hE, hH, hQ, hO, B4, _⟩ => x_move rfl (fr.ev rfl)) ⟨hW, hE, hH, hQ, hO, B4, trivial⟩ ?_
  clear fr a; intro a fr
  refine fx_take (i := 8) (v := .pointer (some ⟨bw, 0, none⟩)) fr rfl (by kernel_rfl) rfl rfl (by first | decide | simp) (fun _ _ _ h => h) (fun _ ⟨hW, hE, hH, hQ, hO, B4, _⟩ => x_nilCheck rfl (fr.ev rfl)) ⟨hW, hE, hH, hQ, hO, B4, trivial⟩ ?_
  clear fr a; intro a fr
  refine fx_take (i := 9) (v := .pointer (some ⟨bw, 3, none⟩)) fr rfl (by kernel_rfl) rfl rfl (by first | decide | simp) (fun _ _ _ h => h) (fun _ ⟨hW, hE, hH, hQ, hO, B4, _⟩ => x_fieldAddr fo82_3 rfl (fr.ev rfl) rfl) ⟨hW, hE, hH, hQ, hO, B4, trivial⟩ ?_
  clear fr a; intro a fr
  refine fx_take (i := 10) (v := .int .u32 m.line) fr rfl (by kernel_rfl) rfl rfl (by first | decide | simp) (fun _ _ _ h => h) (fun _ ⟨hW, hE, hH, hQ, hO, B4, _⟩ => x_load1 pl24 rfl (fr.ev rfl) (hW.cell 3 rfl)) ⟨hW, hE, hH, hQ, hO, B4, trivial⟩ ?_
  clear fr a; intro a fr
  refine fx_take (i := 11) (v := .pointer (some ⟨b1, 4, none⟩)) fr rfl (by kernel_rfl) rfl rfl (by first | decide | simp) (fun _ _ _ h => h) (fun _ ⟨hW, hE, hH, hQ, hO, B4, _⟩ => x_fieldAddr fo36_4 rfl (fr.ev rfl) rfl) ⟨hW, hE, hH, hQ, hO, B4, trivial⟩ ?_
  clear fr a; intro a fr
  refine fx_take (i := 12) (v := .agg (bsE.arr m.bs)) fr rfl (by kernel_rfl) rfl rfl (by first | decide | simp) (fun _ _ _ h => h) (fun _ ⟨hW, hE, hH, hQ, hO, B4, _⟩ => x_loadE (E := bsE) ag34 rfl rfl (fr.ev rfl) (B4.part (msg_bs _))) ⟨hW, hE, hH, hQ, hO, B4, trivial⟩ ?_
  clear fr a; intro a fr
  refine fx_one (i := 13) (by kernel_rfl) (fx_op rfl ?_)
  refine fx_call fr rfl rfl (by first | decide | simp) (x_call (vs := [.pointer (some ⟨bi, 0, none⟩), .int .u32 m.line, .agg (bsE.arr m.bs)]) rfl rfl ⟨(fr.ev rfl), (fr.ev rfl), (fr.ev rfl), trivial⟩ Try.func50 nm50 rfl) (hset_c m.line m.bs (by omega) hI) ?_
  clear fr a
  rintro v w13 ⟨rfl, hIn12, hN14⟩ a fr
  replace hW := hW.only hN14 (by first | exact ne_bw_ig | exact ne_ig_bw.symm | (show ¬ bw = ig; omega))
  replace hE := hE.only hN14 (by first | exact ne_be_ig | exact ne_ig_be.symm | (show ¬ be = ig; omega))
  replace hH := hH.only hN14 (by first | exact ne_bh_ig | exact ne_ig_bh.symm | (show ¬ bh = ig; omega))
  replace hQ := hQ.only hN14 (Apart.ne1 ap_Q_ig)
  replace hO := hO.only hN14 (Apart.ne1 ap_A_ig)
  replace B4 := B4.only hN14 (by first | exact ne_b1_ig | exact ne_ig_b1.symm | (show ¬ b1 = ig; omega))
  replace hF := hF.loc hN14 (.inl (.inr (.inr (.inl rfl))))
  replace hI := hIn12
  clear hIn12
  refine wpList_nil ?_
  refine ⟨⟨hW, hE, hH, hQ, hO, B4, trivial⟩, ?_⟩
  refine fx_hdone (by kernel_rfl) ?_
  refine fx_next ?_
  refine wp_seq ?_
  refine wp_region_lit ?_  -- region 3
  refine fx_val (v := .pointer (some ⟨bw, 0, none⟩)) fr rfl rfl (by first | decide | simp) (x_move rfl (fr.ev rfl)) ?_
  clear fr a; intro a fr
  refine fx_val (v := .pointer (some ⟨bw, 0, none⟩)) fr rfl rfl (by first | decide | simp) (x_nilCheck rfl (fr.ev rfl)) ?_
  clear fr a; intro a fr
  refine fx_val (v := .pointer (some ⟨bw, 1, none⟩)) fr rfl rfl (by first | decide | simp) (x_fieldAddr fo82_1 rfl (fr.ev rfl) rfl) ?_
  clear fr a; intro a fr
  refine fx_val (v := .pointer (some ⟨be, 0, none⟩)) fr rfl rfl (by first | decide | simp) (x_load1 pl78 rfl (fr.ev rfl) (hW.cell 1 rfl)) ?_
  clear fr a; intro a fr
  refine fx_val (v := .pointer (some ⟨be, 0, none⟩)) fr rfl rfl (by first | decide | simp) (x_nilCheck rfl (fr.ev rfl)) ?_
  clear fr a; intro a fr
  refine fx_val (v := .pointer (some ⟨be, 8, none⟩)) fr rfl rfl (by first | decide | simp) (x_fieldAddr fo42_5 rfl (fr.ev rfl) rfl) ?_
  clear fr a; intro a fr
  refine fx_store1 sz3 rfl rfl rfl (fr.ev rfl) rfl rfl hE (show 8 < 11 by decide) (cs' := entA ({ (Ent.mk o sh true asks kind waits told q) with waits := 0 }) (.slice Q q.length qc)) rfl fun w15 hO16 hBq => ?_
  replace hW := hW.only hO16 (by first | exact ne_bw_be | exact ne_be_bw.symm | (show ¬ bw = be; omega))
  replace hH := hH.only hO16 (by first | exact ne_bh_be | exact ne_be_bh.symm | (show ¬ bh = be; omega))
  replace hQ := hQ.only hO16 (Apart.ne1 ap_Q_be)
  replace hO := hO.only hO16 (Apart.ne1 ap_A_be)
  replace B4 := B4.only hO16 (by first | exact ne_b1_be | exact ne_be_b1.symm | (show ¬ b1 = be; omega))
  replace hI := hI.only hO16 (by first | exact ne_bi_be | exact ne_be_bi.symm | (show ¬ bi = be; omega)) (by first | exact ne_ig_be | exact ne_be_ig.symm | (show ¬ ig = be; omega))
  replace hF := hF.loc hO16 (.inl (.inr (.inl rfl)))
  replace hE := hBq
  clear hBq
  refine wpList_nil ?_
  refine fx_next ?_
  refine wp_seq ?_
  refine wp_seq ?_
  refine wp_region_lit ?_  -- region 4
  refine fx_val (v := .pointer (some ⟨bw, 0, none⟩)) fr rfl rfl (by first | decide | simp) (x_move rfl (fr.ev rfl)) ?_
  clear fr a; intro a fr
  refine fx_val (v := .pointer (some ⟨bw, 0, none⟩)) fr rfl rfl (by first | decide | simp) (x_nilCheck rfl (fr.ev rfl)) ?_
  clear fr a; intro a fr
  refine fx_val (v := .pointer (some ⟨bw, 1, none⟩)) fr rfl rfl (by first | decide | simp) (x_fieldAddr fo82_1 rfl (fr.ev rfl) rfl) ?_
  clear fr a; intro a fr
  refine fx_val (v := .pointer (some ⟨be, 0, none⟩)) fr rfl rfl (by first | decide | simp) (x_load1 pl78 rfl (fr.ev rfl) (hW.cell 1 rfl)) ?_
  clear fr a; intro a fr
  refine fx_val (v := .pointer (some ⟨be, 0, none⟩)) fr rfl rfl (by first | decide | simp) (x_nilCheck rfl (fr.ev rfl)) ?_
  clear fr a; intro a fr
  refine fx_val (v := .pointer (some ⟨be, 7, none⟩)) fr rfl rfl (by first | decide | simp) (x_fieldAddr fo42_4 rfl (fr.ev rfl) rfl) ?_
  clear fr a; intro a fr
  refine fx_val (v := .int .i64 kind) fr rfl rfl (by first | decide | simp) (x_load1 pl33 rfl (fr.ev rfl) (hE.cell 7 rfl)) ?_
  clear fr a; intro a fr
  refine fx_val (v := .bool (decide (kind = 2))) fr rfl rfl (by first | decide | simp) (x_eql rfl (fr.ev rfl) rfl rfl) ?_
  clear fr a; intro a fr
  refine wpList_nil ?_
  refine fx_next ?_
  refine fx_cond fr rfl (fun hc17 => ?_) (fun hc17 => ?_)
  · skip
    have hc17 := of_decide_eq_true hc17
    refine wp_seq ?_
    refine wp_region_lit ?_  -- region 5
    refine fx_val (v := .pointer (some ⟨bw, 0, none⟩)) fr rfl rfl (by first | decide | simp) (x_move rfl (fr.ev rfl)) ?_
    clear fr a; intro a fr
    refine fx_call fr rfl rfl (by first | decide | simp) (x_call (vs := [.pointer (some ⟨bw, 0, none⟩)]) rfl rfl ⟨(fr.ev rfl), trivial⟩ Try.func51 nm51 rfl) (write_c ⟨hW, hE, hH, hI, hQ, hO, ⟨ne_bw_be, ne_bw_bh, ne_bw_bi, ne_bw_ig, ne_be_bh, ne_be_bi, ne_be_ig, ne_bh_bi, ne_bh_ig, ne_bi_ig, ap_Q_bw, ap_Q_be, ap_Q_bh, ap_Q_bi, ap_Q_ig, ap_A_bw, ap_A_be, ap_A_bh, ap_A_bi, ap_A_ig, ap2_Q_A⟩⟩ m.hn (by first | omega | (simp only [List.length_append, List.length_cons, List.length_nil, List.length_map, List.length_take]; omega))) ?_
    clear fr a
    rintro v w23 ⟨rfl, A18, ac19, R20, mv21, hN24⟩ a fr
    have ap_A18_b1 : Apart A18 b1 := moved_apart mv21 ap_A_b1 B4.lt
    have gA_A18 := gA_moved hF mv21 gA_A
    replace B4 := B4.only hN24 (fun h => h.elim (by first | exact ne_b1_bw | exact ne_bw_b1.symm | (show ¬ b1 = bw; omega)) (fun h => h.elim (by first | exact ne_b1_be | exact ne_be_b1.symm | (show ¬ b1 = be; omega)) (fun h => h.elim (by first | exact ne_b1_ig | exact ne_ig_b1.symm | (show ¬ b1 = ig; omega)) ap_A_b1)))
    replace hF := hF.locS hN24 (fun i => (fun h => h.elim (fun e => by rw [e]; exact (.inl (.inl rfl))) (fun h => h.elim (fun e => by rw [e]; exact (.inl (.inr (.inl rfl)))) (fun h => h.elim (fun e => by rw [e]; exact (.inl (.inr (.inr (.inl rfl))))) (fun h => gA_A i h)))))
    clear hW hE hH hI hQ hO
    obtain ⟨hW, hE, hH, hI, hQ, O22, hS⟩ := R20
    have ap_A18_bw := hS.ap_A_bw
    have ap_A18_be := hS.ap_A_be
    have ap_A18_bh := hS.ap_A_bh
    have ap_A18_bi := hS.ap_A_bi
    have ap_A18_ig := hS.ap_A_ig
    have ap2_Q_A18 := hS.ap2_Q_A
    refine wpList_nil ?_
    refine fx_next ?_
    refine wp_ret ?_
    refine fx_rt ?_
    refine fx_ret fr [] [] rfl trivial rfl ?_
    rw [other_b2 hk (show ¬ kind = 1 by omega)]
    exact ⟨_, rfl, rfl, Q, qc, A18, ac19, ⟨hW, hE, hH, hI, hQ, O22, ⟨ne_bw_be, ne_bw_bh, ne_bw_bi, ne_bw_ig, ne_be_bh, ne_be_bi, ne_be_ig, ne_bh_bi, ne_bh_ig, ne_bi_ig, ap_Q_bw, ap_Q_be, ap_Q_bh, ap_Q_bi, ap_Q_ig, ap_A18_bw, ap_A18_be, ap_A18_bh, ap_A18_bi, ap_A18_ig, ap2_Q_A18⟩⟩, hmv gA_A18 ap_A18_bw ap_A18_be ap_A18_ig, hmv gA_Q ap_Q_bw ap_Q_be ap_Q_ig, hF⟩
  · skip
    have hc17 := of_decide_eq_false hc17
    refine wp_skip ?_
    refine fx_next ?_
    refine wp_seq ?_
    refine wp_region_lit ?_  -- region 6
    refine fx_val (v := .pointer (some ⟨bw, 0, none⟩)) fr rfl rfl (by first | decide | simp) (x_move rfl (fr.ev rfl)) ?_
    clear fr a; intro a fr
    refine fx_call fr rfl rfl (by first | decide | simp) (x_call (vs := [.pointer (some ⟨bw, 0, none⟩), .int .i64 (-1)]) rfl rfl ⟨(fr.ev rfl), rfl, trivial⟩ Try.func52 nm52 rfl) (own_c hW hE ne_bw_be (-1)) ?_
    clear fr a
    rintro v w26 ⟨rfl, hEn25, hN27⟩ a fr
    replace hW := hW.only hN27 (by first | exact ne_bw_be | exact ne_be_bw.symm | (show ¬ bw = be; omega))
    replace hH := hH.only hN27 (by first | exact ne_bh_be | exact ne_be_bh.symm | (show ¬ bh = be; omega))
    replace hQ := hQ.only hN27 (Apart.ne1 ap_Q_be)
    replace hO := hO.only hN27 (Apart.ne1 ap_A_be)
    replace B4 := B4.only hN27 (by first | exact ne_b1_be | exact ne_be_b1.symm | (show ¬ b1 = be; omega))
    replace hI := hI.only hN27 (by first | exact ne_bi_be | exact ne_be_bi.symm | (show ¬ bi = be; omega)) (by first | exact ne_ig_be | exact ne_be_ig.symm | (show ¬ ig = be; omega))
    replace hF := hF.loc hN27 (.inl (.inr (.inl rfl)))
    replace hE := hEn25
    clear hEn25
    refine wpList_nil ?_
    refine fx_next ?_
    refine wp_seq ?_
    refine fx_held (n := 25) (fun w => Blk w bw 82 #[.slice A out.length ac, .pointer (some ⟨be, 0, none⟩), .pointer (some ⟨bh, 0, none⟩), .int .u32 m.line] ∧ Blk w bh 64 #[.pointer (some ⟨bi, 0, none⟩), .map (some r)] ∧ View msgE w Q qc q ∧ Own msgE w A ac out ∧ Blk w b1 36 (msgE.arr m) ∧ Img 0 w bi ig cap (setLn bs m.line m.bs) ∧ True) (by kernel_rfl) rfl ?_  -- region 7
    intro w28 hN29
    replace hW := hW.new hN29
    replace hH := hH.new hN29
    replace hQ := hQ.new hN29
    replace hO := hO.new hN29
    replace B4 := B4.new hN29
    replace hI := hI.new hN29
    replace hE := hE.new hN29
    replace hF := hF.trNew hN29
    refine fx_take (i := 0) (v := .pointer (some ⟨bw, 0, none⟩)) fr rfl (by kernel_rfl) rfl rfl (by first | decide | simp) (fun _ _ _ h => h) (fun _ ⟨hW, hH, hQ, hO, B4, hI, _⟩ => x_move rfl (fr.ev rfl)) ⟨hW, hH, hQ, hO, B4, hI, trivial⟩ ?_
    clear fr a; intro a fr
    refine fx_take (i := 1) (v := .pointer (some ⟨bw, 0, none⟩)) fr rfl (by kernel_rfl) rfl rfl (by first | decide | simp) (fun _ _ _ h => h) (fun _ ⟨hW, hH, hQ, hO, B4, hI, _⟩ => x_nilCheck rfl (fr.ev rfl)) ⟨hW, hH, hQ, hO, B4, hI, trivial⟩ ?_
    clear fr a; intro a fr
    refine fx_take (i := 2) (v := .pointer (some ⟨bw, 1, none⟩)) fr rfl (by kernel_rfl) rfl rfl (by first | decide | simp) (fun _ _ _ h => h) (fun _ ⟨hW, hH, hQ, hO, B4, hI, _⟩ => x_fieldAddr fo82_1 rfl (fr.ev rfl) rfl) ⟨hW, hH, hQ, hO, B4, hI, trivial⟩ ?_
    clear fr a; intro a fr
    refine fx_take (i := 3) (v := .pointer (some ⟨be, 0, none⟩)) fr rfl (by kernel_rfl) rfl rfl (by first | decide | simp) (fun _ _ _ h => h) (fun _ ⟨hW, hH, hQ, hO, B4, hI, _⟩ => x_load1 pl78 rfl (fr.ev rfl) (hW.cell 1 rfl)) ⟨hW, hH, hQ, hO, B4, hI, trivial⟩ ?_
    clear fr a; intro a fr
    refine fx_take (i := 4) (v := .pointer (some ⟨b1, 1, none⟩)) fr rfl (by kernel_rfl) rfl rfl (by first | decide | simp) (fun _ _ _ h => h) (fun _ ⟨hW, hH, hQ, hO, B4, hI, _⟩ => x_fieldAddr fo36_1 rfl (fr.ev rfl) rfl) ⟨hW, hH, hQ, hO, B4, hI, trivial⟩ ?_
    clear fr a; intro a fr
    refine fx_take (i := 5) (v := .int .i64 m.src) fr rfl (by kernel_rfl) rfl rfl (by first | decide | simp) (fun _ _ _ h => h) (fun _ ⟨hW, hH, hQ, hO, B4, hI, _⟩ => x_load1 pl3 rfl (fr.ev rfl) (B4.cell 1 rfl)) ⟨hW, hH, hQ, hO, B4, hI, trivial⟩ ?_
    clear fr a; intro a fr
    refine fx_take (i := 6) (v := .pointer (some ⟨bw, 0, none⟩)) fr rfl (by kernel_rfl) rfl rfl (by first | decide | simp) (fun _ _ _ h => h) (fun _ ⟨hW, hH, hQ, hO, B4, hI, _⟩ => x_move rfl (fr.ev rfl)) ⟨hW, hH, hQ, hO, B4, hI, trivial⟩ ?_
    clear fr a; intro a fr
    refine fx_take (i := 7) (v := .pointer (some ⟨bw, 0, none⟩)) fr rfl (by kernel_rfl) rfl rfl (by first | decide | simp) (fun _ _ _ h => h) (fun _ ⟨hW, hH, hQ, hO, B4, hI, _⟩ => x_nilCheck rfl (fr.ev rfl)) ⟨hW, hH, hQ, hO, B4, hI, trivial⟩ ?_
    clear fr a; intro a fr
    refine fx_take (i := 8) (v := .pointer (some ⟨bw, 1, none⟩)) fr rfl (by kernel_rfl) rfl rfl (by first | decide | simp) (fun _ _ _ h => h) (fun _ ⟨hW, hH, hQ, hO, B4, hI, _⟩ => x_fieldAddr fo82_1 rfl (fr.ev rfl) rfl) ⟨hW, hH, hQ, hO, B4, hI, trivial⟩ ?_
    clear fr a; intro a fr
    refine fx_take (i := 9) (v := .pointer (some ⟨be, 0, none⟩)) fr rfl (by kernel_rfl) rfl rfl (by first | decide | simp) (fun _ _ _ h => h) (fun _ ⟨hW, hH, hQ, hO, B4, hI, _⟩ => x_load1 pl78 rfl (fr.ev rfl) (hW.cell 1 rfl)) ⟨hW, hH, hQ, hO, B4, hI, trivial⟩ ?_
    clear fr a; intro a fr
    refine fx_take (i := 10) (v := .pointer (some ⟨bw, 0, none⟩)) fr rfl (by kernel_rfl) rfl rfl (by first | decide | simp) (fun _ _ _ h => h) (fun _ ⟨hW, hH, hQ, hO, B4, hI, _⟩ => x_move rfl (fr.ev rfl)) ⟨hW, hH, hQ, hO, B4, hI, trivial⟩ ?_
    clear fr a; intro a fr
    refine fx_take (i := 11) (v := .pointer (some ⟨bw, 0, none⟩)) fr rfl (by kernel_rfl) rfl rfl (by first | decide | simp) (fun _ _ _ h => h) (fun _ ⟨hW, hH, hQ, hO, B4, hI, _⟩ => x_nilCheck rfl (fr.ev rfl)) ⟨hW, hH, hQ, hO, B4, hI, trivial⟩ ?_
    clear fr a; intro a fr
    refine fx_take (i := 12) (v := .pointer (some ⟨bw, 1, none⟩)) fr rfl (by kernel_rfl) rfl rfl (by first | decide | simp) (fun _ _ _ h => h) (fun _ ⟨hW, hH, hQ, hO, B4, hI, _⟩ => x_fieldAddr fo82_1 rfl (fr.ev rfl) rfl) ⟨hW, hH, hQ, hO, B4, hI, trivial⟩ ?_
    clear fr a; intro a fr
    refine fx_take (i := 13) (v := .pointer (some ⟨be, 0, none⟩)) fr rfl (by kernel_rfl) rfl rfl (by first | decide | simp) (fun _ _ _ h => h) (fun _ ⟨hW, hH, hQ, hO, B4, hI, _⟩ => x_load1 pl78 rfl (fr.ev rfl) (hW.cell 1 rfl)) ⟨hW, hH, hQ, hO, B4, hI, trivial⟩ ?_
    clear fr a; intro a fr
    refine fx_take (i := 14) (v := .pointer (some ⟨be, 0, none⟩)) fr rfl (by kernel_rfl) rfl rfl (by first | decide | simp) (fun _ _ _ h => h) (fun _ ⟨hW, hH, hQ, hO, B4, hI, _⟩ => x_nilCheck rfl (fr.ev rfl)) ⟨hW, hH, hQ, hO, B4, hI, trivial⟩ ?_
    clear fr a; intro a fr
    refine fx_take (i := 15) (v := .pointer (some ⟨be, 6, none⟩)) fr rfl (by kernel_rfl) rfl rfl (by first | decide | simp) (fun _ _ _ h => h) (fun _ ⟨hW, hH, hQ, hO, B4, hI, _⟩ => x_fieldAddr fo42_3 rfl (fr.ev rfl) rfl) ⟨hW, hH, hQ, hO, B4, hI, trivial⟩ ?_
    clear fr a; intro a fr
    refine fx_take (i := 17) (v := .pointer (some ⟨be, 0, none⟩)) fr rfl (by kernel_rfl) rfl rfl (by first | decide | simp) (fun _ _ _ h => h) (fun _ ⟨hW, hH, hQ, hO, B4, hI, _⟩ => x_nilCheck rfl (fr.ev rfl)) ⟨hW, hH, hQ, hO, B4, hI, trivial⟩ ?_
    clear fr a; intro a fr
    refine fx_take (i := 18) (v := .pointer (some ⟨be, 1, none⟩)) fr rfl (by kernel_rfl) rfl rfl (by first | decide | simp) (fun _ _ _ h => h) (fun _ ⟨hW, hH, hQ, hO, B4, hI, _⟩ => x_fieldAddr fo42_1 rfl (fr.ev rfl) rfl) ⟨hW, hH, hQ, hO, B4, hI, trivial⟩ ?_
    clear fr a; intro a fr
    refine fx_take (i := 21) (v := .pointer (some ⟨be, 0, none⟩)) fr rfl (by kernel_rfl) rfl rfl (by first | decide | simp) (fun _ _ _ h => h) (fun _ ⟨hW, hH, hQ, hO, B4, hI, _⟩ => x_nilCheck rfl (fr.ev rfl)) ⟨hW, hH, hQ, hO, B4, hI, trivial⟩ ?_
    clear fr a; intro a fr
    refine fx_take (i := 22) (v := .pointer (some ⟨be, 1, none⟩)) fr rfl (by kernel_rfl) rfl rfl (by first | decide | simp) (fun _ _ _ h => h) (fun _ ⟨hW, hH, hQ, hO, B4, hI, _⟩ => x_fieldAddr fo42_1 rfl (fr.ev rfl) rfl) ⟨hW, hH, hQ, hO, B4, hI, trivial⟩ ?_
    clear fr a; intro a fr
    refine fx_one (i := 16) (by kernel_rfl) (fx_op rfl ?_)
    refine fx_val (v := .int .i64 asks) fr rfl rfl (by first | decide | simp) (x_load1 pl3 rfl (fr.ev rfl) (hE.cell 6 rfl)) ?_
    clear fr a; intro a fr
    refine wpList_nil ?_
    refine ⟨⟨hW, hH, hQ, hO, B4, hI, trivial⟩, ?_⟩
    refine fx_take (i := 19) (v := .pointer (some ⟨be, 1 + m.src.toNat, none⟩)) fr rfl (by kernel_rfl) rfl rfl (by first | decide | simp) (fun _ _ _ h => h) (fun _ ⟨hW, hH, hQ, hO, B4, hI, _⟩ => x_indexArr Try.underlying40 sz4 rfl (fr.ev rfl) ((fr.ev rfl).trans (int_nat _ m.src (by omega))) (by omega) (by omega)) ⟨hW, hH, hQ, hO, B4, hI, trivial⟩ ?_
    clear fr a; intro a fr
    refine fx_one (i := 20) (by kernel_rfl) (fx_op rfl ?_)
    refine fx_store1 sz4 rfl rfl rfl (fr.ev rfl) rfl rfl hE (show 1 + m.src.toNat < 11 by omega) (cs' := entA ({ ownF ({ (Ent.mk o sh true asks kind waits told q) with waits := 0 }) (-1) with sh := sh0.set m.src true }) (.slice Q q.length qc)) (ent_setSh _ _ m.src _ (by omega) (by omega)) fun w30 hO31 hBq => ?_
    replace hW := hW.only hO31 (by first | exact ne_bw_be | exact ne_be_bw.symm | (show ¬ bw = be; omega))
    replace hH := hH.only hO31 (by first | exact ne_bh_be | exact ne_be_bh.symm | (show ¬ bh = be; omega))
    replace hQ := hQ.only hO31 (Apart.ne1 ap_Q_be)
    replace hO := hO.only hO31 (Apart.ne1 ap_A_be)
    replace B4 := B4.only hO31 (by first | exact ne_b1_be | exact ne_be_b1.symm | (show ¬ b1 = be; omega))
    replace hI := hI.only hO31 (by first | exact ne_bi_be | exact ne_be_bi.symm | (show ¬ bi = be; omega)) (by first | exact ne_ig_be | exact ne_be_ig.symm | (show ¬ ig = be; omega))
    replace hF := hF.loc hO31 (.inl (.inr (.inl rfl)))
    replace hE := hBq
    clear hBq
    refine wpList_nil ?_
    refine ⟨⟨hW, hH, hQ, hO, B4, hI, trivial⟩, ?_⟩
    refine fx_take (i := 23) (v := .pointer (some ⟨be, 1 + asks.toNat, none⟩)) fr rfl (by kernel_rfl) rfl rfl (by first | decide | simp) (fun _ _ _ h => h) (fun _ ⟨hW, hH, hQ, hO, B4, hI, _⟩ => x_indexArr Try.underlying40 sz4 rfl (fr.ev rfl) ((fr.ev rfl).trans (int_nat _ asks (by omega))) (by omega) (by omega)) ⟨hW, hH, hQ, hO, B4, hI, trivial⟩ ?_
    clear fr a; intro a fr
    refine fx_one (i := 24) (by kernel_rfl) (fx_op rfl ?_)
    refine fx_store1 sz4 rfl rfl rfl (fr.ev rfl) rfl rfl hE (show 1 + asks.toNat < 11 by omega) (cs' := entA ({ { ownF ({ (Ent.mk o sh true asks kind waits told q) with waits := 0 }) (-1) with sh := sh0.set m.src true } with sh := (sh0.set m.src true).set asks true }) (.slice Q q.length qc)) (ent_setSh _ _ asks _ (by omega) (by omega)) fun w32 hO33 hBq => ?_
    replace hW := hW.only hO33 (by first | exact ne_bw_be | exact ne_be_bw.symm | (show ¬ bw = be; omega))
    replace hH := hH.only hO33 (by first | exact ne_bh_be | exact ne_be_bh.symm | (show ¬ bh = be; omega))
    replace hQ := hQ.only hO33 (Apart.ne1 ap_Q_be)
    replace hO := hO.only hO33 (Apart.ne1 ap_A_be)
    replace B4 := B4.only hO33 (by first | exact ne_b1_be | exact ne_be_b1.symm | (show ¬ b1 = be; omega))
    replace hI := hI.only hO33 (by first | exact ne_bi_be | exact ne_be_bi.symm | (show ¬ bi = be; omega)) (by first | exact ne_ig_be | exact ne_be_ig.symm | (show ¬ ig = be; omega))
    replace hF := hF.loc hO33 (.inl (.inr (.inl rfl)))
    replace hE := hBq
    clear hBq
    refine wpList_nil ?_
    refine ⟨⟨hW, hH, hQ, hO, B4, hI, trivial⟩, ?_⟩
    refine fx_hdone (by kernel_rfl) ?_
    refine fx_next ?_
    refine wp_seq ?_
    refine wp_region_lit ?_  -- region 8
    refine fx_val (v := .pointer (some ⟨bw, 0, none⟩)) fr rfl rfl (by first | decide | simp) (x_move rfl (fr.ev rfl)) ?_
    clear fr a; intro a fr
    refine fx_val (v := .pointer (some ⟨bw, 0, none⟩)) fr rfl rfl (by first | decide | simp) (x_move rfl (fr.ev rfl)) ?_
    clear fr a; intro a fr
    refine fx_val (v := .pointer (some ⟨bw, 0, none⟩)) fr rfl rfl (by first | decide | simp) (x_nilCheck rfl (fr.ev rfl)) ?_
    clear fr a; intro a fr
    refine fx_val (v := .pointer (some ⟨bw, 1, none⟩)) fr rfl rfl (by first | decide | simp) (x_fieldAddr fo82_1 rfl (fr.ev rfl) rfl) ?_
    clear fr a; intro a fr
    refine fx_val (v := .pointer (some ⟨be, 0, none⟩)) fr rfl rfl (by first | decide | simp) (x_load1 pl78 rfl (fr.ev rfl) (hW.cell 1 rfl)) ?_
    clear fr a; intro a fr
    refine fx_val (v := .pointer (some ⟨be, 0, none⟩)) fr rfl rfl (by first | decide | simp) (x_nilCheck rfl (fr.ev rfl)) ?_
    clear fr a; intro a fr
    refine fx_val (v := .pointer (some ⟨be, 6, none⟩)) fr rfl rfl (by first | decide | simp) (x_fieldAddr fo42_3 rfl (fr.ev rfl) rfl) ?_
    clear fr a; intro a fr
    refine fx_val (v := .int .i64 asks) fr rfl rfl (by first | decide | simp) (x_load1 pl3 rfl (fr.ev rfl) (hE.cell 6 rfl)) ?_
    clear fr a; intro a fr
    refine fx_call fr rfl rfl (by first | decide | simp) (x_call (vs := [.pointer (some ⟨bw, 0, none⟩), .int .i64 8, .int .i64 asks, .bool true]) rfl rfl ⟨(fr.ev rfl), rfl, (fr.ev rfl), rfl, trivial⟩ Try.func53 nm53 rfl) (send_b m.hn hW hH hI hO ne_bw_bh ne_bw_bi ne_bw_ig ap_A_bw ap_A_bh ap_A_bi ap_A_ig (by first | omega | (simp only [List.length_append, List.length_cons, List.length_nil, List.length_map, List.length_take]; omega)) 8 asks) ?_
    clear fr a
    rintro v w39 ⟨rfl, A34, ac35, hWn36, O37, mv38, hN40⟩ a fr
    have ap_A34_bw : Apart A34 bw := moved_apart mv38 ap_A_bw hW.lt
    have ap_A34_bh : Apart A34 bh := moved_apart mv38 ap_A_bh hH.lt
    have ap2_A34_Q : Apart2 A34 Q := moved_apart2 mv38 ap2_Q_A.symm fun _ hg => hQ.lt hg
    have ap_A34_b1 : Apart A34 b1 := moved_apart mv38 ap_A_b1 B4.lt
    have ap_A34_bi : Apart A34 bi := moved_apart mv38 ap_A_bi hI.lt.1
    have ap_A34_ig : Apart A34 ig := moved_apart mv38 ap_A_ig hI.lt.2
    have ap_A34_be : Apart A34 be := moved_apart mv38 ap_A_be hE.lt
    have gA_A34 := gA_moved hF mv38 gA_A
    replace hH := hH.only hN40 (fun h => h.elim (by first | exact ne_bh_bw | exact ne_bw_bh.symm | (show ¬ bh = bw; omega)) ap_A_bh)
    replace hQ := hQ.only hN40 (fun g hg => (fun h => h.elim ((Apart.ne1 ap_Q_bw) g hg) ((fun g h1 h2 => ap2_Q_A g h1 h2) g hg)))
    replace B4 := B4.only hN40 (fun h => h.elim (by first | exact ne_b1_bw | exact ne_bw_b1.symm | (show ¬ b1 = bw; omega)) ap_A_b1)
    replace hI := hI.only hN40 (fun h => h.elim (by first | exact ne_bi_bw | exact ne_bw_bi.symm | (show ¬ bi = bw; omega)) ap_A_bi) (fun h => h.elim (by first | exact ne_ig_bw | exact ne_bw_ig.symm | (show ¬ ig = bw; omega)) ap_A_ig)
    replace hE := hE.only hN40 (fun h => h.elim (by first | exact ne_be_bw | exact ne_bw_be.symm | (show ¬ be = bw; omega)) ap_A_be)
    replace hF := hF.loc2 hN40 (.inl (.inl rfl)) gA_A
    clear hW hO
    have hW := hWn36
    clear hWn36
    refine wpList_nil ?_
    refine fx_next ?_
    refine wp_region_lit ?_  -- region 9
    refine fx_val (v := .pointer (some ⟨bw, 0, none⟩)) fr rfl rfl (by first | decide | simp) (x_move rfl (fr.ev rfl)) ?_
    clear fr a; intro a fr
    refine fx_val (v := .pointer (some ⟨bw, 0, none⟩)) fr rfl rfl (by first | decide | simp) (x_nilCheck rfl (fr.ev rfl)) ?_
    clear fr a; intro a fr
    refine fx_val (v := .pointer (some ⟨bw, 1, none⟩)) fr rfl rfl (by first | decide | simp) (x_fieldAddr fo82_1 rfl (fr.ev rfl) rfl) ?_
    clear fr a; intro a fr
    refine fx_val (v := .pointer (some ⟨be, 0, none⟩)) fr rfl rfl (by first | decide | simp) (x_load1 pl78 rfl (fr.ev rfl) (hW.cell 1 rfl)) ?_
    clear fr a; intro a fr
    refine fx_val (v := .pointer (some ⟨be, 0, none⟩)) fr rfl rfl (by first | decide | simp) (x_nilCheck rfl (fr.ev rfl)) ?_
    clear fr a; intro a fr
    refine fx_val (v := .pointer (some ⟨be, 9, none⟩)) fr rfl rfl (by first | decide | simp) (x_fieldAddr fo42_6 rfl (fr.ev rfl) rfl) ?_
    clear fr a; intro a fr
    refine fx_store1 sz4 rfl rfl rfl (fr.ev rfl) rfl rfl hE (show 9 < 11 by decide) (cs' := entA ({ { { ownF ({ (Ent.mk o sh true asks kind waits told q) with waits := 0 }) (-1) with sh := sh0.set m.src true } with sh := (sh0.set m.src true).set asks true } with told := true }) (.slice Q q.length qc)) rfl fun w41 hO42 hBq => ?_
    replace hH := hH.only hO42 (by first | exact ne_bh_be | exact ne_be_bh.symm | (show ¬ bh = be; omega))
    replace hQ := hQ.only hO42 (Apart.ne1 ap_Q_be)
    replace B4 := B4.only hO42 (by first | exact ne_b1_be | exact ne_be_b1.symm | (show ¬ b1 = be; omega))
    replace hI := hI.only hO42 (by first | exact ne_bi_be | exact ne_be_bi.symm | (show ¬ bi = be; omega)) (by first | exact ne_ig_be | exact ne_be_ig.symm | (show ¬ ig = be; omega))
    replace hW := hW.only hO42 (by first | exact ne_bw_be | exact ne_be_bw.symm | (show ¬ bw = be; omega))
    replace O37 := O37.only hO42 (Apart.ne1 ap_A34_be)
    replace hF := hF.loc hO42 (.inl (.inr (.inl rfl)))
    replace hE := hBq
    clear hBq
    refine wpList_nil ?_
    refine fx_end fr [] [] rfl trivial rfl ?_
    rw [other_b1 hk (show kind = 1 by omega)]
    exact ⟨_, rfl, rfl, Q, qc, A34, ac35, ⟨hW, hE, hH, hI, hQ, O37, ⟨ne_bw_be, ne_bw_bh, ne_bw_bi, ne_bw_ig, ne_be_bh, ne_be_bi, ne_be_ig, ne_bh_bi, ne_bh_ig, ne_bi_ig, ap_Q_bw, ap_Q_be, ap_Q_bh, ap_Q_bi, ap_Q_ig, ap_A34_bw, ap_A34_be, ap_A34_bh, ap_A34_bi, ap_A34_ig, ap2_A34_Q.symm⟩⟩, hmv gA_A34 ap_A34_bw ap_A34_be ap_A34_ig, hmv gA_Q ap_Q_bw ap_Q_be ap_Q_ig, hF⟩
set_option maxRecDepth 100000 in
set_option maxHeartbeats 4000000 in
theorem ack_ok {w : World} {bw be bh bi ig cap r : Nat} {o : Int} {sh : Sh} {asks : Int} {kind : Int} {waits : Int} {told : Bool} {q : List Msg} {Q : Option Addr} {qc : Nat} {A : Option Addr} {ac : Nat} {out : List Msg} {bs : List UInt8} (m : Msg) (R : WorkR w bw be bh bi ig cap r m.line (Ent.mk o sh true asks kind waits told q) Q qc A ac out bs) (hlen : out.length + 8 ≤ 1000000) (hsrc : 0 ≤ m.src ∧ m.src < 4) (hask : 0 ≤ asks ∧ asks < 4) (hk : m.kind = 12) (hw : 0 < waits ∧ waits ≤ 4) (ho : o < 0) (hg : sh.get m.src = true) (hne : m.src ≠ asks) : Calls Try.prog 34 #[.pointer (some ⟨bw, 0, none⟩), .agg (msgE.arr m)] w (Ret fun v w' => v = .tuple #[] ∧ HRet w w' bw be bh bi ig cap r m.line Q A out (otherF bs (Ent.mk o sh true asks kind waits told q) m)) := by
  obtain ⟨hW, hE, hH, hI, hQ, hO, hS⟩ := R
  have ne_bw_be := hS.ne_bw_be
  have ne_bw_bh := hS.ne_bw_bh
  have ne_bw_bi := hS.ne_bw_bi
  have ne_bw_ig := hS.ne_bw_ig
  have ne_be_bh := hS.ne_be_bh
  have ne_be_bi := hS.ne_be_bi
  have ne_be_ig := hS.ne_be_ig
  have ne_bh_bi := hS.ne_bh_bi
  have ne_bh_ig := hS.ne_bh_ig
  have ne_bi_ig := hS.ne_bi_ig
  have ap_Q_bw := hS.ap_Q_bw
  have ap_Q_be := hS.ap_Q_be
  have ap_Q_bh := hS.ap_Q_bh
  have ap_Q_bi := hS.ap_Q_bi
  have ap_Q_ig := hS.ap_Q_ig
  have ap_A_bw := hS.ap_A_bw
  have ap_A_be := hS.ap_A_be
  have ap_A_bh := hS.ap_A_bh
  have ap_A_bi := hS.ap_A_bi
  have ap_A_ig := hS.ap_A_ig
  have ap2_Q_A := hS.ap2_Q_A
  have gA_A : ∀ g, inA A g → (g = bw ∨ g = be ∨ g = ig ∨ inA A g ∨ inA Q g) ∨ w.heap.size ≤ g := fun g hg => .inl (.inr (.inr (.inr (.inl hg))))
  have hmn := m.hn
  have gA_Q : ∀ g, inA Q g → (g = bw ∨ g = be ∨ g = ig ∨ inA A g ∨ inA Q g) ∨ w.heap.size ≤ g := fun g hg => .inl (.inr (.inr (.inr (.inr hg))))
  have hF := Only.refl (fun k => k = bw ∨ k = be ∨ k = ig ∨ inA A k ∨ inA Q k) w
  refine fx_enter Try.func34 rfl (N := (85, [])) (T := [(0, .pointer (some ⟨bw, 0, none⟩)), (1, .agg (msgE.arr m))]) rfl (show 2 ≤ 85 by decide) ⟨rfl, rfl, trivial⟩ fun a fr => ?_
  refine wp_seq ?_
  refine wp_region_lit ?_  -- region 0
  refine fx_new fr rfl rfl (by first | decide | simp) (x_box (cs := msgE.arr m) rfl (fr.ev rfl) rfl) ?_
  clear fr a
  intro b1 w2 hN3 B4 hb5 a fr
  have ne_bw_b1 : NE bw b1 := NE.mk (Nat.lt_of_lt_of_le hW.lt hb5)
  have ne_be_b1 : NE be b1 := NE.mk (Nat.lt_of_lt_of_le hE.lt hb5)
  have ne_bh_b1 : NE bh b1 := NE.mk (Nat.lt_of_lt_of_le hH.lt hb5)
  have ne_bi_b1 : NE bi b1 := NE.mk (Nat.lt_of_lt_of_le hI.lt.1 hb5)
  have ne_ig_b1 : NE ig b1 := NE.mk (Nat.lt_of_lt_of_le hI.lt.2 hb5)
  have ap_Q_b1 : Apart Q b1 := hQ.apart hb5
  have ap_A_b1 : Apart A b1 := hO.apart hb5
  have g_b1 := Nat.le_trans hF.size hb5
  replace hW := hW.new hN3
  replace hE := hE.new hN3
  replace hH := hH.new hN3
  replace hI := hI.new hN3
  replace hQ := hQ.new hN3
  replace hO := hO.new hN3
  replace hF := hF.trNew hN3
  refine wpList_nil ?_
  refine fx_next ?_
  refine wp_seq ?_
  refine fx_held (n := 52) (fun w => Blk w bw 82 #[.slice A out.length ac, .pointer (some ⟨be, 0, none⟩), .pointer (some ⟨bh, 0, none⟩), .int .u32 m.line] ∧ Blk w be 42 (entA (Ent.mk o sh true asks kind waits told q) (.slice Q q.length qc)) ∧ Blk w bh 64 #[.pointer (some ⟨bi, 0, none⟩), .map (some r)] ∧ Img 0 w bi ig cap bs ∧ View msgE w Q qc q ∧ Own msgE w A ac out ∧ Blk w b1 36 (msgE.arr m) ∧ True) (by kernel_rfl) rfl ?_  -- region 1
  intro w6 hN7
  replace hW := hW.new hN7
  replace hE := hE.new hN7
  replace hH := hH.new hN7
  replace hI := hI.new hN7
  replace hQ := hQ.new hN7
  replace hO := hO.new hN7
  replace B4 := B4.new hN7
  replace hF := hF.trNew hN7
  refine fx_take (i := 0) (v := .pointer (some ⟨bw, 0, none⟩)) fr rfl (by kernel_rfl) rfl rfl (by first | decide | simp) (fun _ _ _ h => h) (fun _ ⟨hW, hE, hH, hI, hQ, hO, B4, _⟩ => x_move rfl (fr.ev rfl)) ⟨hW, hE, hH, hI, hQ, hO, B4, trivial⟩ ?_
  clear fr a; intro a fr
  refine fx_take (i := 1) (v := .pointer (some ⟨bw, 0, none⟩)) fr rfl (by kernel_rfl) rfl rfl (by first | decide | simp) (fun _ _ _ h => h) (fun _ ⟨hW, hE, hH, hI, hQ, hO, B4, _⟩ => x_nilCheck rfl (fr.ev rfl)) ⟨hW, hE, hH, hI, hQ, hO, B4, trivial⟩ ?_
  clear fr a; intro a fr
  refine fx_take (i := 2) (v := .pointer (some ⟨bw, 1, none⟩)) fr rfl (by kernel_rfl) rfl rfl (by first | decide | simp) (fun _ _ _ h => h) (fun _ ⟨hW, hE, hH, hI, hQ, hO, B4, _⟩ => x_fieldAddr fo82_1 rfl (fr.ev rfl) rfl) ⟨hW, hE, hH, hI, hQ, hO, B4, trivial⟩ ?_
  clear fr a; intro a fr
  refine fx_take (i := 3) (v := .pointer (some ⟨be, 0, none⟩)) fr rfl (by kernel_rfl) rfl rfl (by first | decide | simp) (fun _ _ _ h => h) (fun _ ⟨hW, hE, hH, hI, hQ, hO, B4, _⟩ => x_load1 pl78 rfl (fr.ev rfl) (hW.cell 1 rfl)) ⟨hW, hE, hH, hI, hQ, hO, B4, trivial⟩ ?_
  clear fr a; intro a fr
  refine fx_take (i := 4) (v := .pointer (some ⟨be, 0, none⟩)) fr rfl (by kernel_rfl) rfl rfl (by first | decide | simp) (fun _ _ _ h => h) (fun _ ⟨hW, hE, hH, hI, hQ, hO, B4, _⟩ => x_nilCheck rfl (fr.ev rfl)) ⟨hW, hE, hH, hI, hQ, hO, B4, trivial⟩ ?_
  clear fr a; intro a fr
  refine fx_take (i := 5) (v := .pointer (some ⟨be, 5, none⟩)) fr rfl (by kernel_rfl) rfl rfl (by first | decide | simp) (fun _ _ _ h => h) (fun _ ⟨hW, hE, hH, hI, hQ, hO, B4, _⟩ => x_fieldAddr fo42_2 rfl (fr.ev rfl) rfl) ⟨hW, hE, hH, hI, hQ, hO, B4, trivial⟩ ?_
  clear fr a; intro a fr
  refine fx_take (i := 6) (v := .bool true) fr rfl (by kernel_rfl) rfl rfl (by first | decide | simp) (fun _ _ _ h => h) (fun _ ⟨hW, hE, hH, hI, hQ, hO, B4, _⟩ => x_load1 pl4 rfl (fr.ev rfl) (hE.cell 5 rfl)) ⟨hW, hE, hH, hI, hQ, hO, B4, trivial⟩ ?_
  clear fr a; intro a fr
  refine fx_take (i := 7) (v := .bool true) fr rfl (by kernel_rfl) rfl rfl (by first | decide | simp) (fun _ _ _ h => h) (fun _ ⟨hW, hE, hH, hI, hQ, hO, B4, _⟩ => x_move rfl (fr.ev rfl)) ⟨hW, hE, hH, hI, hQ, hO, B4, trivial⟩ ?_
  clear fr a; intro a fr
  refine fx_take (i := 8) (v := .pointer (some ⟨bw, 0, none⟩)) fr rfl (by kernel_rfl) (fr.want rfl rfl rfl) rfl (by first | decide | simp) (fun _ _ _ h => h) (fun _ ⟨hW, hE, hH, hI, hQ, hO, B4, _⟩ => x_move rfl (fr.ev rfl)) ⟨hW, hE, hH, hI, hQ, hO, B4, trivial⟩ ?_
  clear fr a; intro a fr
  refine fx_take (i := 9) (v := .pointer (some ⟨bw, 0, none⟩)) fr rfl (by kernel_rfl) (fr.want rfl rfl rfl) rfl (by first | decide | simp) (fun _ _ _ h => h) (fun _ ⟨hW, hE, hH, hI, hQ, hO, B4, _⟩ => x_nilCheck rfl (fr.ev rfl)) ⟨hW, hE, hH, hI, hQ, hO, B4, trivial⟩ ?_
  clear fr a; intro a fr
  refine fx_take (i := 10) (v := .pointer (some ⟨bw, 1, none⟩)) fr rfl (by kernel_rfl) (fr.want rfl rfl rfl) rfl (by first | decide | simp) (fun _ _ _ h => h) (fun _ ⟨hW, hE, hH, hI, hQ, hO, B4, _⟩ => x_fieldAddr fo82_1 rfl (fr.ev rfl) rfl) ⟨hW, hE, hH, hI, hQ, hO, B4, trivial⟩ ?_
  clear fr a; intro a fr
  refine fx_take (i := 11) (v := .pointer (some ⟨be, 0, none⟩)) fr rfl (by kernel_rfl) (fr.want rfl rfl rfl) rfl (by first | decide | simp) (fun _ _ _ h => h) (fun _ ⟨hW, hE, hH, hI, hQ, hO, B4, _⟩ => x_load1 pl78 rfl (fr.ev rfl) (hW.cell 1 rfl)) ⟨hW, hE, hH, hI, hQ, hO, B4, trivial⟩ ?_
  clear fr a; intro a fr
  refine fx_take (i := 12) (v := .pointer (some ⟨be, 0, none⟩)) fr rfl (by kernel_rfl) (fr.want rfl rfl rfl) rfl (by first | decide | simp) (fun _ _ _ h => h) (fun _ ⟨hW, hE, hH, hI, hQ, hO, B4, _⟩ => x_nilCheck rfl (fr.ev rfl)) ⟨hW, hE, hH, hI, hQ, hO, B4, trivial⟩ ?_
  clear fr a; intro a fr
  refine fx_take (i := 13) (v := .pointer (some ⟨be, 8, none⟩)) fr rfl (by kernel_rfl) (fr.want rfl rfl rfl) rfl (by first | decide | simp) (fun _ _ _ h => h) (fun _ ⟨hW, hE, hH, hI, hQ, hO, B4, _⟩ => x_fieldAddr fo42_5 rfl (fr.ev rfl) rfl) ⟨hW, hE, hH, hI, hQ, hO, B4, trivial⟩ ?_
  clear fr a; intro a fr
  refine fx_take (i := 14) (v := .int .i64 waits) fr rfl (by kernel_rfl) (fr.want rfl rfl rfl) rfl (by first | decide | simp) (fun _ _ _ h => h) (fun _ ⟨hW, hE, hH, hI, hQ, hO, B4, _⟩ => x_load1 pl3 rfl (fr.ev rfl) (hE.cell 8 rfl)) ⟨hW, hE, hH, hI, hQ, hO, B4, trivial⟩ ?_
  clear fr a; intro a fr
  refine fx_take (i := 15) (v := .bool true) fr rfl (by kernel_rfl) (fr.want rfl rfl rfl) rfl (by first | decide | simp) (fun _ _ _ h => h) (fun _ ⟨hW, hE, hH, hI, hQ, hO, B4, _⟩ => x_gtr rfl (fr.ev rfl) rfl (decide_eq_true hw.1)) ⟨hW, hE, hH, hI, hQ, hO, B4, trivial⟩ ?_
  clear fr a; intro a fr
  refine fx_take (i := 16) (v := .bool true) fr rfl (by kernel_rfl) rfl rfl (by first | decide | simp) (fun _ _ _ h => h) (fun _ ⟨hW, hE, hH, hI, hQ, hO, B4, _⟩ => x_pick_t rfl (fr.ev rfl) (fr.ev rfl)) ⟨hW, hE, hH, hI, hQ, hO, B4, trivial⟩ ?_
  clear fr a; intro a fr
  refine fx_take (i := 17) (v := .bool true) fr rfl (by kernel_rfl) rfl rfl (by first | decide | simp) (fun _ _ _ h => h) (fun _ ⟨hW, hE, hH, hI, hQ, hO, B4, _⟩ => x_move rfl (fr.ev rfl)) ⟨hW, hE, hH, hI, hQ, hO, B4, trivial⟩ ?_
  clear fr a; intro a fr
  refine fx_take (i := 18) (v := .pointer (some ⟨bw, 0, none⟩)) fr rfl (by kernel_rfl) (fr.want rfl rfl rfl) rfl (by first | decide | simp) (fun _ _ _ h => h) (fun _ ⟨hW, hE, hH, hI, hQ, hO, B4, _⟩ => x_move rfl (fr.ev rfl)) ⟨hW, hE, hH, hI, hQ, hO, B4, trivial⟩ ?_
  clear fr a; intro a fr
  refine fx_take (i := 19) (v := .pointer (some ⟨bw, 0, none⟩)) fr rfl (by kernel_rfl) (fr.want rfl rfl rfl) rfl (by first | decide | simp) (fun _ _ _ h => h) (fun _ ⟨hW, hE, hH, hI, hQ, hO, B4, _⟩ => x_nilCheck rfl (fr.ev rfl)) ⟨hW, hE, hH, hI, hQ, hO, B4, trivial⟩ ?_
  clear fr a; intro a fr
  refine fx_take (i := 20) (v := .pointer (some ⟨bw, 1, none⟩)) fr rfl (by kernel_rfl) (fr.want rfl rfl rfl) rfl (by first | decide | simp) (fun _ _ _ h => h) (fun _ ⟨hW, hE, hH, hI, hQ, hO, B4, _⟩ => x_fieldAddr fo82_1 rfl (fr.ev rfl) rfl) ⟨hW, hE, hH, hI, hQ, hO, B4, trivial⟩ ?_
  clear fr a; intro a fr
  refine fx_take (i := 21) (v := .pointer (some ⟨be, 0, none⟩)) fr rfl (by kernel_rfl) (fr.want rfl rfl rfl) rfl (by first | decide | simp) (fun _ _ _ h => h) (fun _ ⟨hW, hE, hH, hI, hQ, hO, B4, _⟩ => x_load1 pl78 rfl (fr.ev rfl) (hW.cell 1 rfl)) ⟨hW, hE, hH, hI, hQ, hO, B4, trivial⟩ ?_
  clear fr a; intro a fr
  refine fx_take (i := 22) (v := .pointer (some ⟨be, 0, none⟩)) fr rfl (by kernel_rfl) (fr.want rfl rfl rfl) rfl (by first | decide | simp) (fun _ _ _ h => h) (fun _ ⟨hW, hE, hH, hI, hQ, hO, B4, _⟩ => x_nilCheck rfl (fr.ev rfl)) ⟨hW, hE, hH, hI, hQ, hO, B4, trivial⟩ ?_
  clear fr a; intro a fr
  refine fx_take (i := 23) (v := .pointer (some ⟨be, 0, none⟩)) fr rfl (by kernel_rfl) (fr.want rfl rfl rfl) rfl (by first | decide | simp) (fun _ _ _ h => h) (fun _ ⟨hW, hE, hH, hI, hQ, hO, B4, _⟩ => x_fieldAddr fo42_0 rfl (fr.ev rfl) rfl) ⟨hW, hE, hH, hI, hQ, hO, B4, trivial⟩ ?_
  clear fr a; intro a fr
  refine fx_take (i := 24) (v := .int .i64 o) fr rfl (by kernel_rfl) (fr.want rfl rfl rfl) rfl (by first | decide | simp) (fun _ _ _ h => h) (fun _ ⟨hW, hE, hH, hI, hQ, hO, B4, _⟩ => x_load1 pl3 rfl (fr.ev rfl) (hE.cell 0 rfl)) ⟨hW, hE, hH, hI, hQ, hO, B4, trivial⟩ ?_
  clear fr a; intro a fr
  refine fx_take (i := 25) (v := .bool true) fr rfl (by kernel_rfl) (fr.want rfl rfl rfl) rfl (by first | decide | simp) (fun _ _ _ h => h) (fun _ ⟨hW, hE, hH, hI, hQ, hO, B4, _⟩ => x_lss rfl (fr.ev rfl) rfl (decide_eq_true ho)) ⟨hW, hE, hH, hI, hQ, hO, B4, trivial⟩ ?_
  clear fr a; intro a fr
  refine fx_take (i := 26) (v := .bool true) fr rfl (by kernel_rfl) rfl rfl (by first | decide | simp) (fun _ _ _ h => h) (fun _ ⟨hW, hE, hH, hI, hQ, hO, B4, _⟩ => x_pick_t rfl (fr.ev rfl) (fr.ev rfl)) ⟨hW, hE, hH, hI, hQ, hO, B4, trivial⟩ ?_
  clear fr a; intro a fr
  refine fx_take (i := 27) (v := .bool true) fr rfl (by kernel_rfl) rfl rfl (by first | decide | simp) (fun _ _ _ h => h) (fun _ ⟨hW, hE, hH, hI, hQ, hO, B4, _⟩ => x_move rfl (fr.ev rfl)) ⟨hW, hE, hH, hI, hQ, hO, B4, trivial⟩ ?_
  clear fr a; intro a fr
  refine fx_take (i := 28) (v := .pointer (some ⟨bw, 0, none⟩)) fr rfl (by kernel_rfl) (fr.want rfl rfl rfl) rfl (by first | decide | simp) (fun _ _ _ h => h) (fun _ ⟨hW, hE, hH, hI, hQ, hO, B4, _⟩ => x_move rfl (fr.ev rfl)) ⟨hW, hE, hH, hI, hQ, hO, B4, trivial⟩ ?_
  clear fr a; intro a fr
  refine fx_take (i := 29) (v := .pointer (some ⟨bw, 0, none⟩)) fr rfl (by kernel_rfl) (fr.want rfl rfl rfl) rfl (by first | decide | simp) (fun _ _ _ h => h) (fun _ ⟨hW, hE, hH, hI, hQ, hO, B4, _⟩ => x_nilCheck rfl (fr.ev rfl)) ⟨hW, hE, hH, hI, hQ, hO, B4, trivial⟩ ?_
  clear fr a; intro a fr
  refine fx_take (i := 30) (v := .pointer (some ⟨bw, 1, none⟩)) fr rfl (by kernel_rfl) (fr.want rfl rfl rfl) rfl (by first | decide | simp) (fun _ _ _ h => h) (fun _ ⟨hW, hE, hH, hI, hQ, hO, B4, _⟩ => x_fieldAddr fo82_1 rfl (fr.ev rfl) rfl) ⟨hW, hE, hH, hI, hQ, hO, B4, trivial⟩ ?_
  clear fr a; intro a fr
  refine fx_take (i := 31) (v := .pointer (some ⟨be, 0, none⟩)) fr rfl (by kernel_rfl) (fr.want rfl rfl rfl) rfl (by first | decide | simp) (fun _ _ _ h => h) (fun _ ⟨hW, hE, hH, hI, hQ, hO, B4, _⟩ => x_load1 pl78 rfl (fr.ev rfl) (hW.cell 1 rfl)) ⟨hW, hE, hH, hI, hQ, hO, B4, trivial⟩ ?_
  clear fr a; intro a fr
  refine fx_take (i := 32) (v := .pointer (some ⟨b1, 1, none⟩)) fr rfl (by kernel_rfl) (fr.want rfl rfl rfl) rfl (by first | decide | simp) (fun _ _ _ h => h) (fun _ ⟨hW, hE, hH, hI, hQ, hO, B4, _⟩ => x_fieldAddr fo36_1 rfl (fr.ev rfl) rfl) ⟨hW, hE, hH, hI, hQ, hO, B4, trivial⟩ ?_
  clear fr a; intro a fr
  refine fx_take (i := 33) (v := .int .i64 m.src) fr rfl (by kernel_rfl) (fr.want rfl rfl rfl) rfl (by first | decide | simp) (fun _ _ _ h => h) (fun _ ⟨hW, hE, hH, hI, hQ, hO, B4, _⟩ => x_load1 pl3 rfl (fr.ev rfl) (B4.cell 1 rfl)) ⟨hW, hE, hH, hI, hQ, hO, B4, trivial⟩ ?_
  clear fr a; intro a fr
  refine fx_take (i := 34) (v := .pointer (some ⟨be, 0, none⟩)) fr rfl (by kernel_rfl) (fr.want rfl rfl rfl) rfl (by first | decide | simp) (fun _ _ _ h => h) (fun _ ⟨hW, hE, hH, hI, hQ, hO, B4, _⟩ => x_nilCheck rfl (fr.ev rfl)) ⟨hW, hE, hH, hI, hQ, hO, B4, trivial⟩ ?_
  clear fr a; intro a fr
  refine fx_take (i := 35) (v := .pointer (some ⟨be, 1, none⟩)) fr rfl (by kernel_rfl) (fr.want rfl rfl rfl) rfl (by first | decide | simp) (fun _ _ _ h => h) (fun _ ⟨hW, hE, hH, hI, hQ, hO, B4, _⟩ => x_fieldAddr fo42_1 rfl (fr.ev rfl) rfl) ⟨hW, hE, hH, hI, hQ, hO, B4, trivial⟩ ?_
  clear fr a; intro a fr
  refine fx_take (i := 36) (v := .pointer (some ⟨be, 1 + m.src.toNat, none⟩)) fr rfl (by kernel_rfl) (fr.want rfl rfl rfl) rfl (by first | decide | simp) (fun _ _ _ h => h) (fun _ ⟨hW, hE, hH, hI, hQ, hO, B4, _⟩ => x_indexArr Try.underlying40 sz4 rfl (fr.ev rfl) ((fr.ev rfl).trans (int_nat _ m.src (by omega))) (by omega) (by omega)) ⟨hW, hE, hH, hI, hQ, hO, B4, trivial⟩ ?_
  clear fr a; intro a fr
  refine fx_take (i := 37) (v := .bool true) fr rfl (by kernel_rfl) (fr.want rfl rfl rfl) rfl (by first | decide | simp) (fun _ _ _ h => h) (fun _ ⟨hW, hE, hH, hI, hQ, hO, B4, _⟩ => x_load1 pl4 rfl (fr.ev rfl) ((hE.cell _ (ent_sh _ _ m.src (by omega) (by omega))).trans (by rw [hg]))) ⟨hW, hE, hH, hI, hQ, hO, B4, trivial⟩ ?_
  clear fr a; intro a fr
  refine fx_take (i := 38) (v := .bool true) fr rfl (by kernel_rfl) rfl rfl (by first | decide | simp) (fun _ _ _ h => h) (fun _ ⟨hW, hE, hH, hI, hQ, hO, B4, _⟩ => x_pick_t rfl (fr.ev rfl) (fr.ev rfl)) ⟨hW, hE, hH, hI, hQ, hO, B4, trivial⟩ ?_
  clear fr a; intro a fr
  refine fx_take (i := 39) (v := .bool true) fr rfl (by kernel_rfl) rfl rfl (by first | decide | simp) (fun _ _ _ h => h) (fun _ ⟨hW, hE, hH, hI, hQ, hO, B4, _⟩ => x_move rfl (fr.ev rfl)) ⟨hW, hE, hH, hI, hQ, hO, B4, trivial⟩ ?_
  clear fr a; intro a fr
  refine fx_take (i := 40) (v := .pointer (some ⟨b1, 1, none⟩)) fr rfl (by kernel_rfl) (fr.want rfl rfl rfl) rfl (by first | decide | simp) (fun _ _ _ h => h) (fun _ ⟨hW, hE, hH, hI, hQ, hO, B4, _⟩ => x_fieldAddr fo36_1 rfl (fr.ev rfl) rfl) ⟨hW, hE, hH, hI, hQ, hO, B4, trivial⟩ ?_
  clear fr a; intro a fr
  refine fx_take (i := 41) (v := .int .i64 m.src) fr rfl (by kernel_rfl) (fr.want rfl rfl rfl) rfl (by first | decide | simp) (fun _ _ _ h => h) (fun _ ⟨hW, hE, hH, hI, hQ, hO, B4, _⟩ => x_load1 pl3 rfl (fr.ev rfl) (B4.cell 1 rfl)) ⟨hW, hE, hH, hI, hQ, hO, B4, trivial⟩ ?_
  clear fr a; intro a fr
  refine fx_take (i := 42) (v := .pointer (some ⟨bw, 0, none⟩)) fr rfl (by kernel_rfl) (fr.want rfl rfl rfl) rfl (by first | decide | simp) (fun _ _ _ h => h) (fun _ ⟨hW, hE, hH, hI, hQ, hO, B4, _⟩ => x_move rfl (fr.ev rfl)) ⟨hW, hE, hH, hI, hQ, hO, B4, trivial⟩ ?_
  clear fr a; intro a fr
  refine fx_take (i := 43) (v := .pointer (some ⟨bw, 0, none⟩)) fr rfl (by kernel_rfl) (fr.want rfl rfl rfl) rfl (by first | decide | simp) (fun _ _ _ h => h) (fun _ ⟨hW, hE, hH, hI, hQ, hO, B4, _⟩ => x_nilCheck rfl (fr.ev rfl)) ⟨hW, hE, hH, hI, hQ, hO, B4, trivial⟩ ?_
  clear fr a; intro a fr
  refine fx_take (i := 44) (v := .pointer (some ⟨bw, 1, none⟩)) fr rfl (by kernel_rfl) (fr.want rfl rfl rfl) rfl (by first | decide | simp) (fun _ _ _ h => h) (fun _ ⟨hW, hE, hH, hI, hQ, hO, B4, _⟩ => x_fieldAddr fo82_1 rfl (fr.ev rfl) rfl) ⟨hW, hE, hH, hI, hQ, hO, B4, trivial⟩ ?_
  clear fr a; intro a fr
  refine fx_take (i := 45) (v := .pointer (some ⟨be, 0, none⟩)) fr rfl (by kernel_rfl) (fr.want rfl rfl rfl) rfl (by first | decide | simp) (fun _ _ _ h => h) (fun _ ⟨hW, hE, hH, hI, hQ, hO, B4, _⟩ => x_load1 pl78 rfl (fr.ev rfl) (hW.cell 1 rfl)) ⟨hW, hE, hH, hI, hQ, hO, B4, trivial⟩ ?_
  clear fr a; intro a fr
  refine fx_take (i := 46) (v := .pointer (some ⟨be, 0, none⟩)) fr rfl (by kernel_rfl) (fr.want rfl rfl rfl) rfl (by first | decide | simp) (fun _ _ _ h => h) (fun _ ⟨hW, hE, hH, hI, hQ, hO, B4, _⟩ => x_nilCheck rfl (fr.ev rfl)) ⟨hW, hE, hH, hI, hQ, hO, B4, trivial⟩ ?_
  clear fr a; intro a fr
  refine fx_take (i := 47) (v := .pointer (some ⟨be, 6, none⟩)) fr rfl (by kernel_rfl) (fr.want rfl rfl rfl) rfl (by first | decide | simp) (fun _ _ _ h => h) (fun _ ⟨hW, hE, hH, hI, hQ, hO, B4, _⟩ => x_fieldAddr fo42_3 rfl (fr.ev rfl) rfl) ⟨hW, hE, hH, hI, hQ, hO, B4, trivial⟩ ?_
  clear fr a; intro a fr
  refine fx_take (i := 48) (v := .int .i64 asks) fr rfl (by kernel_rfl) (fr.want rfl rfl rfl) rfl (by first | decide | simp) (fun _ _ _ h => h) (fun _ ⟨hW, hE, hH, hI, hQ, hO, B4, _⟩ => x_load1 pl3 rfl (fr.ev rfl) (hE.cell 6 rfl)) ⟨hW, hE, hH, hI, hQ, hO, B4, trivial⟩ ?_
  clear fr a; intro a fr
  refine fx_take (i := 49) (v := .bool true) fr rfl (by kernel_rfl) (fr.want rfl rfl rfl) rfl (by first | decide | simp) (fun _ _ _ h => h) (fun _ ⟨hW, hE, hH, hI, hQ, hO, B4, _⟩ => x_neq rfl (fr.ev rfl) (fr.ev rfl) (decide_eq_true hne)) ⟨hW, hE, hH, hI, hQ, hO, B4, trivial⟩ ?_
  clear fr a; intro a fr
  refine fx_take (i := 50) (v := .bool true) fr rfl (by kernel_rfl) rfl rfl (by first | decide | simp) (fun _ _ _ h => h) (fun _ ⟨hW, hE, hH, hI, hQ, hO, B4, _⟩ => x_pick_t rfl (fr.ev rfl) (fr.ev rfl)) ⟨hW, hE, hH, hI, hQ, hO, B4, trivial⟩ ?_
  clear fr a; intro a fr
  refine fx_one (i := 51) (by kernel_rfl) (fx_op rfl ?_)
  refine fx_call fr rfl rfl (by first | decide | simp) (x_call (vs := [.bool true, .int .i64 220]) rfl rfl ⟨(fr.ev rfl), rfl, trivial⟩ Try.func49 nm49 rfl) (must_ok 220 _) ?_
  clear fr a
  rintro v w9 ⟨rfl, hw9⟩ a fr
  obtain rfl := hw9.symm
  refine wpList_nil ?_
  refine ⟨⟨hW, hE, hH, hI, hQ, hO, B4, trivial⟩, ?_⟩
  refine fx_hdone (by kernel_rfl) ?_
  refine fx_next ?_
  refine wp_seq ?_
  refine fx_held (n := 10) (fun w => Blk w bw 82 #[.slice A out.length ac, .pointer (some ⟨be, 0, none⟩), .pointer (some ⟨bh, 0, none⟩), .int .u32 m.line] ∧ Blk w bh 64 #[.pointer (some ⟨bi, 0, none⟩), .map (some r)] ∧ Img 0 w bi ig cap bs ∧ View msgE w Q qc q ∧ Own msgE w A ac out ∧ Blk w b1 36 (msgE.arr m) ∧ True) (by kernel_rfl) rfl ?_  -- region 2
  intro w10 hN11
  replace hW := hW.new hN11
  replace hE := hE.new hN11
  replace hH := hH.new hN11
  replace hI := hI.new hN11
  replace hQ := hQ.new hN11
  replace hO := hO.new hN11
  replace B4 := B4.new hN11
  replace hF := hF.trNew hN11
  refine fx_take (i := 0) (v := .pointer (some ⟨bw, 0, none⟩)) fr rfl (by kernel_rfl) rfl rfl (by first | decide | simp) (fun _ _ _ h => h) (fun _ ⟨hW, hH, hI, hQ, hO, B4, _⟩ => x_move rfl (fr.ev rfl)) ⟨hW, hH, hI, hQ, hO, B4, trivial⟩ ?_
  clear fr a; intro a fr
  refine fx_take (i := 1) (v := .pointer (some ⟨bw, 0, none⟩)) fr rfl (by kernel_rfl) rfl rfl (by first | decide | simp) (fun _ _ _ h => h) (fun _ ⟨hW, hH, hI, hQ, hO, B4, _⟩ => x_nilCheck rfl (fr.ev rfl)) ⟨hW, hH, hI, hQ, hO, B4, trivial⟩ ?_
  clear fr a; intro a fr
  refine fx_take (i := 2) (v := .pointer (some ⟨bw, 1, none⟩)) fr rfl (by kernel_rfl) rfl rfl (by first | decide | simp) (fun _ _ _ h => h) (fun _ ⟨hW, hH, hI, hQ, hO, B4, _⟩ => x_fieldAddr fo82_1 rfl (fr.ev rfl) rfl) ⟨hW, hH, hI, hQ, hO, B4, trivial⟩ ?_
  clear fr a; intro a fr
  refine fx_take (i := 3) (v := .pointer (some ⟨be, 0, none⟩)) fr rfl (by kernel_rfl) rfl rfl (by first | decide | simp) (fun _ _ _ h => h) (fun _ ⟨hW, hH, hI, hQ, hO, B4, _⟩ => x_load1 pl78 rfl (fr.ev rfl) (hW.cell 1 rfl)) ⟨hW, hH, hI, hQ, hO, B4, trivial⟩ ?_
  clear fr a; intro a fr
  refine fx_take (i := 4) (v := .pointer (some ⟨b1, 1, none⟩)) fr rfl (by kernel_rfl) rfl rfl (by first | decide | simp) (fun _ _ _ h => h) (fun _ ⟨hW, hH, hI, hQ, hO, B4, _⟩ => x_fieldAddr fo36_1 rfl (fr.ev rfl) rfl) ⟨hW, hH, hI, hQ, hO, B4, trivial⟩ ?_
  clear fr a; intro a fr
  refine fx_take (i := 5) (v := .int .i64 m.src) fr rfl (by kernel_rfl) rfl rfl (by first | decide | simp) (fun _ _ _ h => h) (fun _ ⟨hW, hH, hI, hQ, hO, B4, _⟩ => x_load1 pl3 rfl (fr.ev rfl) (B4.cell 1 rfl)) ⟨hW, hH, hI, hQ, hO, B4, trivial⟩ ?_
  clear fr a; intro a fr
  refine fx_take (i := 6) (v := .pointer (some ⟨be, 0, none⟩)) fr rfl (by kernel_rfl) rfl rfl (by first | decide | simp) (fun _ _ _ h => h) (fun _ ⟨hW, hH, hI, hQ, hO, B4, _⟩ => x_nilCheck rfl (fr.ev rfl)) ⟨hW, hH, hI, hQ, hO, B4, trivial⟩ ?_
  clear fr a; intro a fr
  refine fx_take (i := 7) (v := .pointer (some ⟨be, 1, none⟩)) fr rfl (by kernel_rfl) rfl rfl (by first | decide | simp) (fun _ _ _ h => h) (fun _ ⟨hW, hH, hI, hQ, hO, B4, _⟩ => x_fieldAddr fo42_1 rfl (fr.ev rfl) rfl) ⟨hW, hH, hI, hQ, hO, B4, trivial⟩ ?_
  clear fr a; intro a fr
  refine fx_take (i := 8) (v := .pointer (some ⟨be, 1 + m.src.toNat, none⟩)) fr rfl (by kernel_rfl) rfl rfl (by first | decide | simp) (fun _ _ _ h => h) (fun _ ⟨hW, hH, hI, hQ, hO, B4, _⟩ => x_indexArr Try.underlying40 sz4 rfl (fr.ev rfl) ((fr.ev rfl).trans (int_nat _ m.src (by omega))) (by omega) (by omega)) ⟨hW, hH, hI, hQ, hO, B4, trivial⟩ ?_
  clear fr a; intro a fr
  refine fx_one (i := 9) (by kernel_rfl) (fx_op rfl ?_)
  refine fx_store1 sz4 rfl rfl rfl (fr.ev rfl) rfl rfl hE (show 1 + m.src.toNat < 11 by omega) (cs' := entA ({ (Ent.mk o sh true asks kind waits told q) with sh := sh.set m.src false }) (.slice Q q.length qc)) (ent_setSh _ _ m.src _ (by omega) (by omega)) fun w12 hO13 hBq => ?_
  replace hW := hW.only hO13 (by first | exact ne_bw_be | exact ne_be_bw.symm | (show ¬ bw = be; omega))
  replace hH := hH.only hO13 (by first | exact ne_bh_be | exact ne_be_bh.symm | (show ¬ bh = be; omega))
  replace hI := hI.only hO13 (by first | exact ne_bi_be | exact ne_be_bi.symm | (show ¬ bi = be; omega)) (by first | exact ne_ig_be | exact ne_be_ig.symm | (show ¬ ig = be; omega))
  replace hQ := hQ.only hO13 (Apart.ne1 ap_Q_be)
  replace hO := hO.only hO13 (Apart.ne1 ap_A_be)
  replace B4 := B4.only hO13 (by first | exact ne_b1_be | exact ne_be_b1.symm | (show ¬ b1 = be; omega))
  replace hF := hF.loc hO13 (.inl (.inr (.inl rfl)))
  replace hE := hBq
  clear hBq
  refine wpList_nil ?_
  refine ⟨⟨hW, hH, hI, hQ, hO, B4, trivial⟩, ?_⟩
  refine fx_hdone (by kernel_rfl) ?_
  refine fx_next ?_
  refine wp_seq ?_
  refine wp_region_lit ?_  -- region 3
  refine fx_val (v := .pointer (some ⟨bw, 0, none⟩)) fr rfl rfl (by first | decide | simp) (x_move rfl (fr.ev rfl)) ?_
  clear fr a; intro a fr
  refine fx_val (v := .pointer (some ⟨bw, 0, none⟩)) fr rfl rfl (by first | decide | simp) (x_nilCheck rfl (fr.ev rfl)) ?_
  clear fr a; intro a fr
  refine fx_val (v := .pointer (some ⟨bw, 1, none⟩)) fr rfl rfl (by first | decide | simp) (x_fieldAddr fo82_1 rfl (fr.ev rfl) rfl) ?_
  clear fr a; intro a fr
  refine fx_val (v := .pointer (some ⟨be, 0, none⟩)) fr rfl rfl (by first | decide | simp) (x_load1 pl78 rfl (fr.ev rfl) (hW.cell 1 rfl)) ?_
  clear fr a; intro a fr
  refine fx_val (v := .pointer (some ⟨be, 0, none⟩)) fr rfl rfl (by first | decide | simp) (x_nilCheck rfl (fr.ev rfl)) ?_
  clear fr a; intro a fr
  refine fx_val (v := .pointer (some ⟨be, 8, none⟩)) fr rfl rfl (by first | decide | simp) (x_fieldAddr fo42_5 rfl (fr.ev rfl) rfl) ?_
  clear fr a; intro a fr
  refine fx_val (v := .int .i64 waits) fr rfl rfl (by first | decide | simp) (x_load1 pl3 rfl (fr.ev rfl) (hE.cell 8 rfl)) ?_
  clear fr a; intro a fr
  refine fx_val (v := .int .i64 (waits - 1)) fr rfl rfl (by first | decide | simp) (x_sub rfl (fr.ev rfl) rfl (i64w (r := waits - 1) (by omega) (by omega))) ?_
  clear fr a; intro a fr
  refine fx_val (v := .pointer (some ⟨be, 0, none⟩)) fr rfl rfl (by first | decide | simp) (x_nilCheck rfl (fr.ev rfl)) ?_
  clear fr a; intro a fr
  refine fx_val (v := .pointer (some ⟨be, 8, none⟩)) fr rfl rfl (by first | decide | simp) (x_fieldAddr fo42_5 rfl (fr.ev rfl) rfl) ?_
  clear fr a; intro a fr
  refine fx_store1 sz3 rfl rfl rfl (fr.ev rfl) (fr.ev rfl) rfl hE (show 8 < 11 by decide) (cs' := entA ({ { (Ent.mk o sh true asks kind waits told q) with sh := sh.set m.src false } with waits := waits - 1 }) (.slice Q q.length qc)) rfl fun w14 hO15 hBq => ?_
  replace hW := hW.only hO15 (by first | exact ne_bw_be | exact ne_be_bw.symm | (show ¬ bw = be; omega))
  replace hH := hH.only hO15 (by first | exact ne_bh_be | exact ne_be_bh.symm | (show ¬ bh = be; omega))
  replace hI := hI.only hO15 (by first | exact ne_bi_be | exact ne_be_bi.symm | (show ¬ bi = be; omega)) (by first | exact ne_ig_be | exact ne_be_ig.symm | (show ¬ ig = be; omega))
  replace hQ := hQ.only hO15 (Apart.ne1 ap_Q_be)
  replace hO := hO.only hO15 (Apart.ne1 ap_A_be)
  replace B4 := B4.only hO15 (by first | exact ne_b1_be | exact ne_be_b1.symm | (show ¬ b1 = be; omega))
  replace hF := hF.loc hO15 (.inl (.inr (.inl rfl)))
  replace hE := hBq
  clear hBq
  refine wpList_nil ?_
  refine fx_next ?_
  refine wp_seq ?_
  refine wp_region_lit ?_  -- region 4
  refine fx_val (v := .pointer (some ⟨bw, 0, none⟩)) fr rfl rfl (by first | decide | simp) (x_move rfl (fr.ev rfl)) ?_
  clear fr a; intro a fr
  refine fx_val (v := .pointer (some ⟨bw, 0, none⟩)) fr rfl rfl (by first | decide | simp) (x_nilCheck rfl (fr.ev rfl)) ?_
  clear fr a; intro a fr
  refine fx_val (v := .pointer (some ⟨bw, 1, none⟩)) fr rfl rfl (by first | decide | simp) (x_fieldAddr fo82_1 rfl (fr.ev rfl) rfl) ?_
  clear fr a; intro a fr
  refine fx_val (v := .pointer (some ⟨be, 0, none⟩)) fr rfl rfl (by first | decide | simp) (x_load1 pl78 rfl (fr.ev rfl) (hW.cell 1 rfl)) ?_
  clear fr a; intro a fr
  refine fx_val (v := .pointer (some ⟨be, 0, none⟩)) fr rfl rfl (by first | decide | simp) (x_nilCheck rfl (fr.ev rfl)) ?_
  clear fr a; intro a fr
  refine fx_val (v := .pointer (some ⟨be, 8, none⟩)) fr rfl rfl (by first | decide | simp) (x_fieldAddr fo42_5 rfl (fr.ev rfl) rfl) ?_
  clear fr a; intro a fr
  refine fx_val (v := .int .i64 (waits - 1)) fr rfl rfl (by first | decide | simp) (x_load1 pl3 rfl (fr.ev rfl) (hE.cell 8 rfl)) ?_
  clear fr a; intro a fr
  refine fx_val (v := .bool (decide (waits - 1 = 0))) fr rfl rfl (by first | decide | simp) (x_eql rfl (fr.ev rfl) rfl rfl) ?_
  clear fr a; intro a fr
  refine wpList_nil ?_
  refine fx_next ?_
  refine fx_cond fr rfl (fun hc16 => ?_) (fun hc16 => ?_)
  · skip
    have hc16 := of_decide_eq_true hc16
    refine wp_region_lit ?_  -- region 5
    refine fx_val (v := .pointer (some ⟨bw, 0, none⟩)) fr rfl rfl (by first | decide | simp) (x_move rfl (fr.ev rfl)) ?_
    clear fr a; intro a fr
    refine fx_call fr rfl rfl (by first | decide | simp) (x_call (vs := [.pointer (some ⟨bw, 0, none⟩)]) rfl rfl ⟨(fr.ev rfl), trivial⟩ Try.func51 nm51 rfl) (write_c ⟨hW, hE, hH, hI, hQ, hO, ⟨ne_bw_be, ne_bw_bh, ne_bw_bi, ne_bw_ig, ne_be_bh, ne_be_bi, ne_be_ig, ne_bh_bi, ne_bh_ig, ne_bi_ig, ap_Q_bw, ap_Q_be, ap_Q_bh, ap_Q_bi, ap_Q_ig, ap_A_bw, ap_A_be, ap_A_bh, ap_A_bi, ap_A_ig, ap2_Q_A⟩⟩ m.hn (by first | omega | (simp only [List.length_append, List.length_cons, List.length_nil, List.length_map, List.length_take]; omega))) ?_
    clear fr a
    rintro v w22 ⟨rfl, A17, ac18, R19, mv20, hN23⟩ a fr
    have ap_A17_b1 : Apart A17 b1 := moved_apart mv20 ap_A_b1 B4.lt
    have gA_A17 := gA_moved hF mv20 gA_A
    replace B4 := B4.only hN23 (fun h => h.elim (by first | exact ne_b1_bw | exact ne_bw_b1.symm | (show ¬ b1 = bw; omega)) (fun h => h.elim (by first | exact ne_b1_be | exact ne_be_b1.symm | (show ¬ b1 = be; omega)) (fun h => h.elim (by first | exact ne_b1_ig | exact ne_ig_b1.symm | (show ¬ b1 = ig; omega)) ap_A_b1)))
    replace hF := hF.locS hN23 (fun i => (fun h => h.elim (fun e => by rw [e]; exact (.inl (.inl rfl))) (fun h => h.elim (fun e => by rw [e]; exact (.inl (.inr (.inl rfl)))) (fun h => h.elim (fun e => by rw [e]; exact (.inl (.inr (.inr (.inl rfl))))) (fun h => gA_A i h)))))
    clear hW hE hH hI hQ hO
    obtain ⟨hW, hE, hH, hI, hQ, O21, hS⟩ := R19
    have ap_A17_bw := hS.ap_A_bw
    have ap_A17_be := hS.ap_A_be
    have ap_A17_bh := hS.ap_A_bh
    have ap_A17_bi := hS.ap_A_bi
    have ap_A17_ig := hS.ap_A_ig
    have ap2_Q_A17 := hS.ap2_Q_A
    refine wpList_nil ?_
    refine fx_end fr [] [] rfl trivial rfl ?_
    rw [other_a1 hk (show waits = 1 by omega)]
    rw [show waits - 1 = 0 from hc16] at hE
    exact ⟨_, rfl, rfl, Q, qc, A17, ac18, ⟨hW, hE, hH, hI, hQ, O21, ⟨ne_bw_be, ne_bw_bh, ne_bw_bi, ne_bw_ig, ne_be_bh, ne_be_bi, ne_be_ig, ne_bh_bi, ne_bh_ig, ne_bi_ig, ap_Q_bw, ap_Q_be, ap_Q_bh, ap_Q_bi, ap_Q_ig, ap_A17_bw, ap_A17_be, ap_A17_bh, ap_A17_bi, ap_A17_ig, ap2_Q_A17⟩⟩, hmv gA_A17 ap_A17_bw ap_A17_be ap_A17_ig, hmv gA_Q ap_Q_bw ap_Q_be ap_Q_ig, hF⟩
  · skip
    have hc16 := of_decide_eq_false hc16
    refine wp_skip ?_
    refine fx_end fr [] [] rfl trivial rfl ?_
    rw [other_a2 hk (show ¬ waits = 1 by omega)]
    refine ⟨_, rfl, rfl, ?_⟩
    unfold HRet
    rw [List.append_nil]
    exact ⟨Q, qc, A, ac, ⟨hW, hE, hH, hI, hQ, hO, ⟨ne_bw_be, ne_bw_bh, ne_bw_bi, ne_bw_ig, ne_be_bh, ne_be_bi, ne_be_ig, ne_bh_bi, ne_bh_ig, ne_bi_ig, ap_Q_bw, ap_Q_be, ap_Q_bh, ap_Q_bi, ap_Q_ig, ap_A_bw, ap_A_be, ap_A_bh, ap_A_bi, ap_A_ig, ap2_Q_A⟩⟩, hmv gA_A ap_A_bw ap_A_be ap_A_ig, hmv gA_Q ap_Q_bw ap_Q_be ap_Q_ig, hF⟩
set_option maxRecDepth 100000 in
set_option maxHeartbeats 4000000 in
theorem back_no {w : World} {bw be bh bi ig cap r : Nat} {d : Ent} {Q : Option Addr} {qc : Nat} {A : Option Addr} {ac : Nat} {out : List Msg} {bs : List UInt8} (m : Msg) (R : WorkR w bw be bh bi ig cap r m.line d Q qc A ac out bs) (hlen : out.length + 8 ≤ 1000000) (hsrc : 0 ≤ m.src ∧ m.src < 4) (hk : m.kind = 11) (hs : strayF d m = true) : Calls Try.prog 33 #[.pointer (some ⟨bw, 0, none⟩), .agg (msgE.arr m)] w (Pan fun c w' => c = stopE 220 ∧ New w w') := by
  obtain ⟨hW, hE, hH, hI, hQ, hO, hS⟩ := R
  have ne_bw_be := hS.ne_bw_be
  have ne_bw_bh := hS.ne_bw_bh
  have ne_bw_bi := hS.ne_bw_bi
  have ne_bw_ig := hS.ne_bw_ig
  have ne_be_bh := hS.ne_be_bh
  have ne_be_bi := hS.ne_be_bi
  have ne_be_ig := hS.ne_be_ig
  have ne_bh_bi := hS.ne_bh_bi
  have ne_bh_ig := hS.ne_bh_ig
  have ne_bi_ig := hS.ne_bi_ig
  have ap_Q_bw := hS.ap_Q_bw
  have ap_Q_be := hS.ap_Q_be
  have ap_Q_bh := hS.ap_Q_bh
  have ap_Q_bi := hS.ap_Q_bi
  have ap_Q_ig := hS.ap_Q_ig
  have ap_A_bw := hS.ap_A_bw
  have ap_A_be := hS.ap_A_be
  have ap_A_bh := hS.ap_A_bh
  have ap_A_bi := hS.ap_A_bi
  have ap_A_ig := hS.ap_A_ig
  have ap2_Q_A := hS.ap2_Q_A
  have hmn := m.hn
  have gA_A := fun g (hg : inA A g) => (Or.inl trivial : True ∨ w.heap.size ≤ g)
  have hF := Only.refl (fun _ => False) w
  refine fx_enter Try.func33 rfl (N := (104, [])) (T := [(0, .pointer (some ⟨bw, 0, none⟩)), (1, .agg (msgE.arr m))]) rfl (show 2 ≤ 104 by decide) ⟨rfl, rfl, trivial⟩ fun a fr => ?_
  refine wp_seq ?_
  refine wp_region_lit ?_  -- region 0
  refine fx_new fr rfl rfl (by first | decide | simp) (x_box (cs := msgE.arr m) rfl (fr.ev rfl) rfl) ?_
  clear fr a
  intro b1 w2 hN3 B4 hb5 a fr
  have ne_bw_b1 : NE bw b1 := NE.mk (Nat.lt_of_lt_of_le hW.lt hb5)
  have ne_be_b1 : NE be b1 := NE.mk (Nat.lt_of_lt_of_le hE.lt hb5)
  have ne_bh_b1 : NE bh b1 := NE.mk (Nat.lt_of_lt_of_le hH.lt hb5)
  have ne_bi_b1 : NE bi b1 := NE.mk (Nat.lt_of_lt_of_le hI.lt.1 hb5)
  have ne_ig_b1 : NE ig b1 := NE.mk (Nat.lt_of_lt_of_le hI.lt.2 hb5)
  have ap_Q_b1 : Apart Q b1 := hQ.apart hb5
  have ap_A_b1 : Apart A b1 := hO.apart hb5
  have g_b1 := Nat.le_trans hF.size hb5
  replace hW := hW.new hN3
  replace hE := hE.new hN3
  replace hH := hH.new hN3
  replace hI := hI.new hN3
  replace hQ := hQ.new hN3
  replace hO := hO.new hN3
  replace hF := hF.trNew hN3
  refine wpList_nil ?_
  refine fx_next ?_
  refine wp_seq ?_
  refine fx_held (n := 30) (fun w => Blk w bw 82 #[.slice A out.length ac, .pointer (some ⟨be, 0, none⟩), .pointer (some ⟨bh, 0, none⟩), .int .u32 m.line] ∧ Blk w be 42 (entA d (.slice Q d.q.length qc)) ∧ Blk w bh 64 #[.pointer (some ⟨bi, 0, none⟩), .map (some r)] ∧ Img 0 w bi ig cap bs ∧ View msgE w Q qc d.q ∧ Own msgE w A ac out ∧ Blk w b1 36 (msgE.arr m) ∧ True) (by kernel_rfl) rfl ?_  -- region 1
  intro w6 hN7
  replace hW := hW.new hN7
  replace hE := hE.new hN7
  replace hH := hH.new hN7
  replace hI := hI.new hN7
  replace hQ := hQ.new hN7
  replace hO := hO.new hN7
  replace B4 := B4.new hN7
  replace hF := hF.trNew hN7
  refine fx_take (i := 0) (v := .pointer (some ⟨bw, 0, none⟩)) fr rfl (by kernel_rfl) rfl rfl (by first | decide | simp) (fun _ _ _ h => h) (fun _ ⟨hW, hE, hH, hI, hQ, hO, B4, _⟩ => x_move rfl (fr.ev rfl)) ⟨hW, hE, hH, hI, hQ, hO, B4, trivial⟩ ?_
  clear fr a; intro a fr
  refine fx_take (i := 1) (v := .pointer (some ⟨bw, 0, none⟩)) fr rfl (by kernel_rfl) rfl rfl (by first | decide | simp) (fun _ _ _ h => h) (fun _ ⟨hW, hE, hH, hI, hQ, hO, B4, _⟩ => x_nilCheck rfl (fr.ev rfl)) ⟨hW, hE, hH, hI, hQ, hO, B4, trivial⟩ ?_
  clear fr a; intro a fr
  refine fx_take (i := 2) (v := .pointer (some ⟨bw, 1, none⟩)) fr rfl (by kernel_rfl) rfl rfl (by first | decide | simp) (fun _ _ _ h => h) (fun _ ⟨hW, hE, hH, hI, hQ, hO, B4, _⟩ => x_fieldAddr fo82_1 rfl (fr.ev rfl) rfl) ⟨hW, hE, hH, hI, hQ, hO, B4, trivial⟩ ?_
  clear fr a; intro a fr
  refine fx_take (i := 3) (v := .pointer (some ⟨be, 0, none⟩)) fr rfl (by kernel_rfl) rfl rfl (by first | decide | simp) (fun _ _ _ h => h) (fun _ ⟨hW, hE, hH, hI, hQ, hO, B4, _⟩ => x_load1 pl78 rfl (fr.ev rfl) (hW.cell 1 rfl)) ⟨hW, hE, hH, hI, hQ, hO, B4, trivial⟩ ?_
  clear fr a; intro a fr
  refine fx_take (i := 4) (v := .pointer (some ⟨be, 0, none⟩)) fr rfl (by kernel_rfl) rfl rfl (by first | decide | simp) (fun _ _ _ h => h) (fun _ ⟨hW, hE, hH, hI, hQ, hO, B4, _⟩ => x_nilCheck rfl (fr.ev rfl)) ⟨hW, hE, hH, hI, hQ, hO, B4, trivial⟩ ?_
  clear fr a; intro a fr
  refine fx_take (i := 5) (v := .pointer (some ⟨be, 5, none⟩)) fr rfl (by kernel_rfl) rfl rfl (by first | decide | simp) (fun _ _ _ h => h) (fun _ ⟨hW, hE, hH, hI, hQ, hO, B4, _⟩ => x_fieldAddr fo42_2 rfl (fr.ev rfl) rfl) ⟨hW, hE, hH, hI, hQ, hO, B4, trivial⟩ ?_
  clear fr a; intro a fr
  refine fx_take (i := 6) (v := .bool d.busy) fr rfl (by kernel_rfl) rfl rfl (by first | decide | simp) (fun _ _ _ h => h) (fun _ ⟨hW, hE, hH, hI, hQ, hO, B4, _⟩ => x_load1 pl4 rfl (fr.ev rfl) (hE.cell 5 rfl)) ⟨hW, hE, hH, hI, hQ, hO, B4, trivial⟩ ?_
  clear fr a; intro a fr
  refine fx_take (i := 7) (v := .bool d.busy) fr rfl (by kernel_rfl) rfl rfl (by first | decide | simp) (fun _ _ _ h => h) (fun _ ⟨hW, hE, hH, hI, hQ, hO, B4, _⟩ => x_move rfl (fr.ev rfl)) ⟨hW, hE, hH, hI, hQ, hO, B4, trivial⟩ ?_
  clear fr a; intro a fr
  refine fx_takemay (i := 8) (g := d.busy) (v := .pointer (some ⟨bw, 0, none⟩)) fr rfl (by kernel_rfl) rfl rfl rfl (by simp) rfl (by first | decide | simp) (fun _ _ _ _ h => h) (fun hg _ ⟨hW, hE, hH, hI, hQ, hO, B4, _⟩ => x_move rfl (fr.ev rfl)) ⟨hW, hE, hH, hI, hQ, hO, B4, trivial⟩ ?_
  clear fr a; intro a fr
  refine fx_takemay (i := 9) (g := d.busy) (v := .pointer (some ⟨bw, 0, none⟩)) fr rfl (by kernel_rfl) rfl rfl rfl (by simp) rfl (by first | decide | simp) (fun _ _ _ _ h => h) (fun hg _ ⟨hW, hE, hH, hI, hQ, hO, B4, _⟩ => x_nilCheck rfl ((fr.ev rfl).trans (onlyIf_t hg))) ⟨hW, hE, hH, hI, hQ, hO, B4, trivial⟩ ?_
  clear fr a; intro a fr
  refine fx_takemay (i := 10) (g := d.busy) (v := .pointer (some ⟨bw, 1, none⟩)) fr rfl (by kernel_rfl) rfl rfl rfl (by simp) rfl (by first | decide | simp) (fun _ _ _ _ h => h) (fun hg _ ⟨hW, hE, hH, hI, hQ, hO, B4, _⟩ => x_fieldAddr fo82_1 rfl ((fr.ev rfl).trans (onlyIf_t hg)) rfl) ⟨hW, hE, hH, hI, hQ, hO, B4, trivial⟩ ?_
  clear fr a; intro a fr
  refine fx_takemay (i := 11) (g := d.busy) (v := .pointer (some ⟨be, 0, none⟩)) fr rfl (by kernel_rfl) rfl rfl rfl (by simp) rfl (by first | decide | simp) (fun _ _ _ _ h => h) (fun hg _ ⟨hW, hE, hH, hI, hQ, hO, B4, _⟩ => x_load1 pl78 rfl ((fr.ev rfl).trans (onlyIf_t hg)) (hW.cell 1 rfl)) ⟨hW, hE, hH, hI, hQ, hO, B4, trivial⟩ ?_
  clear fr a; intro a fr
  refine fx_takemay (i := 12) (g := d.busy) (v := .pointer (some ⟨be, 0, none⟩)) fr rfl (by kernel_rfl) rfl rfl rfl (by simp) rfl (by first | decide | simp) (fun _ _ _ _ h => h) (fun hg _ ⟨hW, hE, hH, hI, hQ, hO, B4, _⟩ => x_nilCheck rfl ((fr.ev rfl).trans (onlyIf_t hg))) ⟨hW, hE, hH, hI, hQ, hO, B4, trivial⟩ ?_
  clear fr a; intro a fr
  refine fx_takemay (i := 13) (g := d.busy) (v := .pointer (some ⟨be, 8, none⟩)) fr rfl (by kernel_rfl) rfl rfl rfl (by simp) rfl (by first | decide | simp) (fun _ _ _ _ h => h) (fun hg _ ⟨hW, hE, hH, hI, hQ, hO, B4, _⟩ => x_fieldAddr fo42_5 rfl ((fr.ev rfl).trans (onlyIf_t hg)) rfl) ⟨hW, hE, hH, hI, hQ, hO, B4, trivial⟩ ?_
  clear fr a; intro a fr
  refine fx_takemay (i := 14) (g := d.busy) (v := .int .i64 d.waits) fr rfl (by kernel_rfl) rfl rfl rfl (by simp) rfl (by first | decide | simp) (fun _ _ _ _ h => h) (fun hg _ ⟨hW, hE, hH, hI, hQ, hO, B4, _⟩ => x_load1 pl3 rfl ((fr.ev rfl).trans (onlyIf_t hg)) (hE.cell 8 rfl)) ⟨hW, hE, hH, hI, hQ, hO, B4, trivial⟩ ?_
  clear fr a; intro a fr
  refine fx_takemay (i := 15) (g := d.busy) (v := .bool (decide (0 < d.waits))) fr rfl (by kernel_rfl) rfl rfl rfl (by simp) rfl (by first | decide | simp) (fun _ _ _ _ h => h) (fun hg _ ⟨hW, hE, hH, hI, hQ, hO, B4, _⟩ => x_gtr rfl ((fr.ev rfl).trans (onlyIf_t hg)) rfl rfl) ⟨hW, hE, hH, hI, hQ, hO, B4, trivial⟩ ?_
  clear fr a; intro a fr
  refine fx_take (i := 16) (v := .bool (d.busy && (decide (0 < d.waits)))) fr rfl (by kernel_rfl) rfl rfl (by first | decide | simp) (fun _ _ _ h => h) (fun _ ⟨hW, hE, hH, hI, hQ, hO, B4, _⟩ => x_pick_and rfl (fr.ev rfl) (fun hb => ((fr.ev rfl)).trans (onlyIf_t (by simp_all))) (fun _ => rfl) rfl) ⟨hW, hE, hH, hI, hQ, hO, B4, trivial⟩ ?_
  clear fr a; intro a fr
  refine fx_take (i := 17) (v := .bool (d.busy && (decide (0 < d.waits)))) fr rfl (by kernel_rfl) rfl rfl (by first | decide | simp) (fun _ _ _ h => h) (fun _ ⟨hW, hE, hH, hI, hQ, hO, B4, _⟩ => x_move rfl (fr.ev rfl)) ⟨hW, hE, hH, hI, hQ, hO, B4, trivial⟩ ?_
  clear fr a; intro a fr
  refine fx_takemay (i := 18) (g := (d.busy && (decide (0 < d.waits)))) (v := .pointer (some ⟨bw, 0, none⟩)) fr rfl (by kernel_rfl) rfl rfl rfl (by simp) rfl (by first | decide | simp) (fun _ _ _ _ h => h) (fun hg _ ⟨hW, hE, hH, hI, hQ, hO, B4, _⟩ => x_move rfl (fr.ev rfl)) ⟨hW, hE, hH, hI, hQ, hO, B4, trivial⟩ ?_
  clear fr a; intro a fr
  refine fx_takemay (i := 19) (g := (d.busy && (decide (0 < d.waits)))) (v := .pointer (some ⟨bw, 0, none⟩)) fr rfl (by kernel_rfl) rfl rfl rfl (by simp) rfl (by first | decide | simp) (fun _ _ _ _ h => h) (fun hg _ ⟨hW, hE, hH, hI, hQ, hO, B4, _⟩ => x_nilCheck rfl ((fr.ev rfl).trans (onlyIf_t hg))) ⟨hW, hE, hH, hI, hQ, hO, B4, trivial⟩ ?_
  clear fr a; intro a fr
  refine fx_takemay (i := 20) (g := (d.busy && (decide (0 < d.waits)))) (v := .pointer (some ⟨bw, 1, none⟩)) fr rfl (by kernel_rfl) rfl rfl rfl (by simp) rfl (by first | decide | simp) (fun _ _ _ _ h => h) (fun hg _ ⟨hW, hE, hH, hI, hQ, hO, B4, _⟩ => x_fieldAddr fo82_1 rfl ((fr.ev rfl).trans (onlyIf_t hg)) rfl) ⟨hW, hE, hH, hI, hQ, hO, B4, trivial⟩ ?_
  clear fr a; intro a fr
  refine fx_takemay (i := 21) (g := (d.busy && (decide (0 < d.waits)))) (v := .pointer (some ⟨be, 0, none⟩)) fr rfl (by kernel_rfl) rfl rfl rfl (by simp) rfl (by first | decide | simp) (fun _ _ _ _ h => h) (fun hg _ ⟨hW, hE, hH, hI, hQ, hO, B4, _⟩ => x_load1 pl78 rfl ((fr.ev rfl).trans (onlyIf_t hg)) (hW.cell 1 rfl)) ⟨hW, hE, hH, hI, hQ, hO, B4, trivial⟩ ?_
  clear fr a; intro a fr
  refine fx_takemay (i := 22) (g := (d.busy && (decide (0 < d.waits)))) (v := .pointer (some ⟨be, 0, none⟩)) fr rfl (by kernel_rfl) rfl rfl rfl (by simp) rfl (by first | decide | simp) (fun _ _ _ _ h => h) (fun hg _ ⟨hW, hE, hH, hI, hQ, hO, B4, _⟩ => x_nilCheck rfl ((fr.ev rfl).trans (onlyIf_t hg))) ⟨hW, hE, hH, hI, hQ, hO, B4, trivial⟩ ?_
  clear fr a; intro a fr
  refine fx_takemay (i := 23) (g := (d.busy && (decide (0 < d.waits)))) (v := .pointer (some ⟨be, 0, none⟩)) fr rfl (by kernel_rfl) rfl rfl rfl (by simp) rfl (by first | decide | simp) (fun _ _ _ _ h => h) (fun hg _ ⟨hW, hE, hH, hI, hQ, hO, B4, _⟩ => x_fieldAddr fo42_0 rfl ((fr.ev rfl).trans (onlyIf_t hg)) rfl) ⟨hW, hE, hH, hI, hQ, hO, B4, trivial⟩ ?_
  clear fr a; intro a fr
  refine fx_takemay (i := 24) (g := (d.busy && (decide (0 < d.waits)))) (v := .int .i64 d.o) fr rfl (by kernel_rfl) rfl rfl rfl (by simp) rfl (by first | decide | simp) (fun _ _ _ _ h => h) (fun hg _ ⟨hW, hE, hH, hI, hQ, hO, B4, _⟩ => x_load1 pl3 rfl ((fr.ev rfl).trans (onlyIf_t hg)) (hE.cell 0 rfl)) ⟨hW, hE, hH, hI, hQ, hO, B4, trivial⟩ ?_
  clear fr a; intro a fr
  refine fx_takemay (i := 25) (g := (d.busy && (decide (0 < d.waits)))) (v := .pointer (some ⟨b1, 1, none⟩)) fr rfl (by kernel_rfl) rfl rfl rfl (by simp) rfl (by first | decide | simp) (fun _ _ _ _ h => h) (fun hg _ ⟨hW, hE, hH, hI, hQ, hO, B4, _⟩ => x_fieldAddr fo36_1 rfl (fr.ev rfl) rfl) ⟨hW, hE, hH, hI, hQ, hO, B4, trivial⟩ ?_
  clear fr a; intro a fr
  refine fx_takemay (i := 26) (g := (d.busy && (decide (0 < d.waits)))) (v := .int .i64 m.src) fr rfl (by kernel_rfl) rfl rfl rfl (by simp) rfl (by first | decide | simp) (fun _ _ _ _ h => h) (fun hg _ ⟨hW, hE, hH, hI, hQ, hO, B4, _⟩ => x_load1 pl3 rfl ((fr.ev rfl).trans (onlyIf_t hg)) (B4.cell 1 rfl)) ⟨hW, hE, hH, hI, hQ, hO, B4, trivial⟩ ?_
  clear fr a; intro a fr
  refine fx_takemay (i := 27) (g := (d.busy && (decide (0 < d.waits)))) (v := .bool (decide (d.o = m.src))) fr rfl (by kernel_rfl) rfl rfl rfl (by simp) rfl (by first | decide | simp) (fun _ _ _ _ h => h) (fun hg _ ⟨hW, hE, hH, hI, hQ, hO, B4, _⟩ => x_eql rfl ((fr.ev rfl).trans (onlyIf_t hg)) ((fr.ev rfl).trans (onlyIf_t hg)) rfl) ⟨hW, hE, hH, hI, hQ, hO, B4, trivial⟩ ?_
  clear fr a; intro a fr
  refine fx_take (i := 28) (v := .bool ((d.busy && (decide (0 < d.waits))) && (decide (d.o = m.src)))) fr rfl (by kernel_rfl) rfl rfl (by first | decide | simp) (fun _ _ _ h => h) (fun _ ⟨hW, hE, hH, hI, hQ, hO, B4, _⟩ => x_pick_and rfl (fr.ev rfl) (fun hb => ((fr.ev rfl)).trans (onlyIf_t (by simp_all))) (fun _ => rfl) rfl) ⟨hW, hE, hH, hI, hQ, hO, B4, trivial⟩ ?_
  clear fr a; intro a fr
  refine fx_one (i := 29) (by kernel_rfl) (fx_op rfl ?_)
  refine fx_callp rfl (x_call (vs := [.bool ((d.busy && (decide (0 < d.waits))) && (decide (d.o = m.src))), .int .i64 220]) rfl rfl ⟨(fr.ev rfl), rfl, trivial⟩ Try.func49 nm49 rfl) (must_nob (back_nob hk hs) 220 _) ?_
  rintro _ _ ⟨rfl, rfl⟩
  refine fx_pt ?_
  refine fx_pend fr ?_
  exact ⟨_, rfl, rfl, hF⟩
set_option maxRecDepth 100000 in
set_option maxHeartbeats 4000000 in
theorem ack_no {w : World} {bw be bh bi ig cap r : Nat} {d : Ent} {Q : Option Addr} {qc : Nat} {A : Option Addr} {ac : Nat} {out : List Msg} {bs : List UInt8} (m : Msg) (R : WorkR w bw be bh bi ig cap r m.line d Q qc A ac out bs) (hlen : out.length + 8 ≤ 1000000) (hsrc : 0 ≤ m.src ∧ m.src < 4) (hk : m.kind = 12) (hs : strayF d m = true) : Calls Try.prog 34 #[.pointer (some ⟨bw, 0, none⟩), .agg (msgE.arr m)] w (Pan fun c w' => c = stopE 220 ∧ New w w') := by
  obtain ⟨hW, hE, hH, hI, hQ, hO, hS⟩ := R
  have ne_bw_be := hS.ne_bw_be
  have ne_bw_bh := hS.ne_bw_bh
  have ne_bw_bi := hS.ne_bw_bi
  have ne_bw_ig := hS.ne_bw_ig
  have ne_be_bh := hS.ne_be_bh
  have ne_be_bi := hS.ne_be_bi
  have ne_be_ig := hS.ne_be_ig
  have ne_bh_bi := hS.ne_bh_bi
  have ne_bh_ig := hS.ne_bh_ig
  have ne_bi_ig := hS.ne_bi_ig
  have ap_Q_bw := hS.ap_Q_bw
  have ap_Q_be := hS.ap_Q_be
  have ap_Q_bh := hS.ap_Q_bh
  have ap_Q_bi := hS.ap_Q_bi
  have ap_Q_ig := hS.ap_Q_ig
  have ap_A_bw := hS.ap_A_bw
  have ap_A_be := hS.ap_A_be
  have ap_A_bh := hS.ap_A_bh
  have ap_A_bi := hS.ap_A_bi
  have ap_A_ig := hS.ap_A_ig
  have ap2_Q_A := hS.ap2_Q_A
  have hmn := m.hn
  have gA_A := fun g (hg : inA A g) => (Or.inl trivial : True ∨ w.heap.size ≤ g)
  have hF := Only.refl (fun _ => False) w
  refine fx_enter Try.func34 rfl (N := (85, [])) (T := [(0, .pointer (some ⟨bw, 0, none⟩)), (1, .agg (msgE.arr m))]) rfl (show 2 ≤ 85 by decide) ⟨rfl, rfl, trivial⟩ fun a fr => ?_
  refine wp_seq ?_
  refine wp_region_lit ?_  -- region 0
  refine fx_new fr rfl rfl (by first | decide | simp) (x_box (cs := msgE.arr m) rfl (fr.ev rfl) rfl) ?_
  clear fr a
  intro b1 w2 hN3 B4 hb5 a fr
  have ne_bw_b1 : NE bw b1 := NE.mk (Nat.lt_of_lt_of_le hW.lt hb5)
  have ne_be_b1 : NE be b1 := NE.mk (Nat.lt_of_lt_of_le hE.lt hb5)
  have ne_bh_b1 : NE bh b1 := NE.mk (Nat.lt_of_lt_of_le hH.lt hb5)
  have ne_bi_b1 : NE bi b1 := NE.mk (Nat.lt_of_lt_of_le hI.lt.1 hb5)
  have ne_ig_b1 : NE ig b1 := NE.mk (Nat.lt_of_lt_of_le hI.lt.2 hb5)
  have ap_Q_b1 : Apart Q b1 := hQ.apart hb5
  have ap_A_b1 : Apart A b1 := hO.apart hb5
  have g_b1 := Nat.le_trans hF.size hb5
  replace hW := hW.new hN3
  replace hE := hE.new hN3
  replace hH := hH.new hN3
  replace hI := hI.new hN3
  replace hQ := hQ.new hN3
  replace hO := hO.new hN3
  replace hF := hF.trNew hN3
  refine wpList_nil ?_
  refine fx_next ?_
  refine wp_seq ?_
  refine fx_held (n := 52) (fun w => Blk w bw 82 #[.slice A out.length ac, .pointer (some ⟨be, 0, none⟩), .pointer (some ⟨bh, 0, none⟩), .int .u32 m.line] ∧ Blk w be 42 (entA d (.slice Q d.q.length qc)) ∧ Blk w bh 64 #[.pointer (some ⟨bi, 0, none⟩), .map (some r)] ∧ Img 0 w bi ig cap bs ∧ View msgE w Q qc d.q ∧ Own msgE w A ac out ∧ Blk w b1 36 (msgE.arr m) ∧ True) (by kernel_rfl) rfl ?_  -- region 1
  intro w6 hN7
  replace hW := hW.new hN7
  replace hE := hE.new hN7
  replace hH := hH.new hN7
  replace hI := hI.new hN7
  replace hQ := hQ.new hN7
  replace hO := hO.new hN7
  replace B4 := B4.new hN7
  replace hF := hF.trNew hN7
  refine fx_take (i := 0) (v := .pointer (some ⟨bw, 0, none⟩)) fr rfl (by kernel_rfl) rfl rfl (by first | decide | simp) (fun _ _ _ h => h) (fun _ ⟨hW, hE, hH, hI, hQ, hO, B4, _⟩ => x_move rfl (fr.ev rfl)) ⟨hW, hE, hH, hI, hQ, hO, B4, trivial⟩ ?_
  clear fr a; intro a fr
  refine fx_take (i := 1) (v := .pointer (some ⟨bw, 0, none⟩)) fr rfl (by kernel_rfl) rfl rfl (by first | decide | simp) (fun _ _ _ h => h) (fun _ ⟨hW, hE, hH, hI, hQ, hO, B4, _⟩ => x_nilCheck rfl (fr.ev rfl)) ⟨hW, hE, hH, hI, hQ, hO, B4, trivial⟩ ?_
  clear fr a; intro a fr
  refine fx_take (i := 2) (v := .pointer (some ⟨bw, 1, none⟩)) fr rfl (by kernel_rfl) rfl rfl (by first | decide | simp) (fun _ _ _ h => h) (fun _ ⟨hW, hE, hH, hI, hQ, hO, B4, _⟩ => x_fieldAddr fo82_1 rfl (fr.ev rfl) rfl) ⟨hW, hE, hH, hI, hQ, hO, B4, trivial⟩ ?_
  clear fr a; intro a fr
  refine fx_take (i := 3) (v := .pointer (some ⟨be, 0, none⟩)) fr rfl (by kernel_rfl) rfl rfl (by first | decide | simp) (fun _ _ _ h => h) (fun _ ⟨hW, hE, hH, hI, hQ, hO, B4, _⟩ => x_load1 pl78 rfl (fr.ev rfl) (hW.cell 1 rfl)) ⟨hW, hE, hH, hI, hQ, hO, B4, trivial⟩ ?_
  clear fr a; intro a fr
  refine fx_take (i := 4) (v := .pointer (some ⟨be, 0, none⟩)) fr rfl (by kernel_rfl) rfl rfl (by first | decide | simp) (fun _ _ _ h => h) (fun _ ⟨hW, hE, hH, hI, hQ, hO, B4, _⟩ => x_nilCheck rfl (fr.ev rfl)) ⟨hW, hE, hH, hI, hQ, hO, B4, trivial⟩ ?_
  clear fr a; intro a fr
  refine fx_take (i := 5) (v := .pointer (some ⟨be, 5, none⟩)) fr rfl (by kernel_rfl) rfl rfl (by first | decide | simp) (fun _ _ _ h => h) (fun _ ⟨hW, hE, hH, hI, hQ, hO, B4, _⟩ => x_fieldAddr fo42_2 rfl (fr.ev rfl) rfl) ⟨hW, hE, hH, hI, hQ, hO, B4, trivial⟩ ?_
  clear fr a; intro a fr
  refine fx_take (i := 6) (v := .bool d.busy) fr rfl (by kernel_rfl) rfl rfl (by first | decide | simp) (fun _ _ _ h => h) (fun _ ⟨hW, hE, hH, hI, hQ, hO, B4, _⟩ => x_load1 pl4 rfl (fr.ev rfl) (hE.cell 5 rfl)) ⟨hW, hE, hH, hI, hQ, hO, B4, trivial⟩ ?_
  clear fr a; intro a fr
  refine fx_take (i := 7) (v := .bool d.busy) fr rfl (by kernel_rfl) rfl rfl (by first | decide | simp) (fun _ _ _ h => h) (fun _ ⟨hW, hE, hH, hI, hQ, hO, B4, _⟩ => x_move rfl (fr.ev rfl)) ⟨hW, hE, hH, hI, hQ, hO, B4, trivial⟩ ?_
  clear fr a; intro a fr
  refine fx_takemay (i := 8) (g := d.busy) (v := .pointer (some ⟨bw, 0, none⟩)) fr rfl (by kernel_rfl) rfl rfl rfl (by simp) rfl (by first | decide | simp) (fun _ _ _ _ h => h) (fun hg _ ⟨hW, hE, hH, hI, hQ, hO, B4, _⟩ => x_move rfl (fr.ev rfl)) ⟨hW, hE, hH, hI, hQ, hO, B4, trivial⟩ ?_
  clear fr a; intro a fr
  refine fx_takemay (i := 9) (g := d.busy) (v := .pointer (some ⟨bw, 0, none⟩)) fr rfl (by kernel_rfl) rfl rfl rfl (by simp) rfl (by first | decide | simp) (fun _ _ _ _ h => h) (fun hg _ ⟨hW, hE, hH, hI, hQ, hO, B4, _⟩ => x_nilCheck rfl ((fr.ev rfl).trans (onlyIf_t hg))) ⟨hW, hE, hH, hI, hQ, hO, B4, trivial⟩ ?_
  clear fr a; intro a fr
  refine fx_takemay (i := 10) (g := d.busy) (v := .pointer (some ⟨bw, 1, none⟩)) fr rfl (by kernel_rfl) rfl rfl rfl (by simp) rfl (by first | decide | simp) (fun _ _ _ _ h => h) (fun hg _ ⟨hW, hE, hH, hI, hQ, hO, B4, _⟩ => x_fieldAddr fo82_1 rfl ((fr.ev rfl).trans (onlyIf_t hg)) rfl) ⟨hW, hE, hH, hI, hQ, hO, B4, trivial⟩ ?_
  clear fr a; intro a fr
  refine fx_takemay (i := 11) (g := d.busy) (v := .pointer (some ⟨be, 0, none⟩)) fr rfl (by kernel_rfl) rfl rfl rfl (by simp) rfl (by first | decide | simp) (fun _ _ _ _ h => h) (fun hg _ ⟨hW, hE, hH, hI, hQ, hO, B4, _⟩ => x_load1 pl78 rfl ((fr.ev rfl).trans (onlyIf_t hg)) (hW.cell 1 rfl)) ⟨hW, hE, hH, hI, hQ, hO, B4, trivial⟩ ?_
  clear fr a; intro a fr
  refine fx_takemay (i := 12) (g := d.busy) (v := .pointer (some ⟨be, 0, none⟩)) fr rfl (by kernel_rfl) rfl rfl rfl (by simp) rfl (by first | decide | simp) (fun _ _ _ _ h => h) (fun hg _ ⟨hW, hE, hH, hI, hQ, hO, B4, _⟩ => x_nilCheck rfl ((fr.ev rfl).trans (onlyIf_t hg))) ⟨hW, hE, hH, hI, hQ, hO, B4, trivial⟩ ?_
  clear fr a; intro a fr
  refine fx_takemay (i := 13) (g := d.busy) (v := .pointer (some ⟨be, 8, none⟩)) fr rfl (by kernel_rfl) rfl rfl rfl (by simp) rfl (by first | decide | simp) (fun _ _ _ _ h => h) (fun hg _ ⟨hW, hE, hH, hI, hQ, hO, B4, _⟩ => x_fieldAddr fo42_5 rfl ((fr.ev rfl).trans (onlyIf_t hg)) rfl) ⟨hW, hE, hH, hI, hQ, hO, B4, trivial⟩ ?_
  clear fr a; intro a fr
  refine fx_takemay (i := 14) (g := d.busy) (v := .int .i64 d.waits) fr rfl (by kernel_rfl) rfl rfl rfl (by simp) rfl (by first | decide | simp) (fun _ _ _ _ h => h) (fun hg _ ⟨hW, hE, hH, hI, hQ, hO, B4, _⟩ => x_load1 pl3 rfl ((fr.ev rfl).trans (onlyIf_t hg)) (hE.cell 8 rfl)) ⟨hW, hE, hH, hI, hQ, hO, B4, trivial⟩ ?_
  clear fr a; intro a fr
  refine fx_takemay (i := 15) (g := d.busy) (v := .bool (decide (0 < d.waits))) fr rfl (by kernel_rfl) rfl rfl rfl (by simp) rfl (by first | decide | simp) (fun _ _ _ _ h => h) (fun hg _ ⟨hW, hE, hH, hI, hQ, hO, B4, _⟩ => x_gtr rfl ((fr.ev rfl).trans (onlyIf_t hg)) rfl rfl) ⟨hW, hE, hH, hI, hQ, hO, B4, trivial⟩ ?_
  clear fr a; intro a fr
  refine fx_take (i := 16) (v := .bool (d.busy && (decide (0 < d.waits)))) fr rfl (by kernel_rfl) rfl rfl (by first | decide | simp) (fun _ _ _ h => h) (fun _ ⟨hW, hE, hH, hI, hQ, hO, B4, _⟩ => x_pick_and rfl (fr.ev rfl) (fun hb => ((fr.ev rfl)).trans (onlyIf_t (by simp_all))) (fun _ => rfl) rfl) ⟨hW, hE, hH, hI, hQ, hO, B4, trivial⟩ ?_
  clear fr a; intro a fr
  refine fx_take (i := 17) (v := .bool (d.busy && (decide (0 < d.waits)))) fr rfl (by kernel_rfl) rfl rfl (by first | decide | simp) (fun _ _ _ h => h) (fun _ ⟨hW, hE, hH, hI, hQ, hO, B4, _⟩ => x_move rfl (fr.ev rfl)) ⟨hW, hE, hH, hI, hQ, hO, B4, trivial⟩ ?_
  clear fr a; intro a fr
  refine fx_takemay (i := 18) (g := (d.busy && (decide (0 < d.waits)))) (v := .pointer (some ⟨bw, 0, none⟩)) fr rfl (by kernel_rfl) rfl rfl rfl (by simp) rfl (by first | decide | simp) (fun _ _ _ _ h => h) (fun hg _ ⟨hW, hE, hH, hI, hQ, hO, B4, _⟩ => x_move rfl (fr.ev rfl)) ⟨hW, hE, hH, hI, hQ, hO, B4, trivial⟩ ?_
  clear fr a; intro a fr
  refine fx_takemay (i := 19) (g := (d.busy && (decide (0 < d.waits)))) (v := .pointer (some ⟨bw, 0, none⟩)) fr rfl (by kernel_rfl) rfl rfl rfl (by simp) rfl (by first | decide | simp) (fun _ _ _ _ h => h) (fun hg _ ⟨hW, hE, hH, hI, hQ, hO, B4, _⟩ => x_nilCheck rfl ((fr.ev rfl).trans (onlyIf_t hg))) ⟨hW, hE, hH, hI, hQ, hO, B4, trivial⟩ ?_
  clear fr a; intro a fr
  refine fx_takemay (i := 20) (g := (d.busy && (decide (0 < d.waits)))) (v := .pointer (some ⟨bw, 1, none⟩)) fr rfl (by kernel_rfl) rfl rfl rfl (by simp) rfl (by first | decide | simp) (fun _ _ _ _ h => h) (fun hg _ ⟨hW, hE, hH, hI, hQ, hO, B4, _⟩ => x_fieldAddr fo82_1 rfl ((fr.ev rfl).trans (onlyIf_t hg)) rfl) ⟨hW, hE, hH, hI, hQ, hO, B4, trivial⟩ ?_
  clear fr a; intro a fr
  refine fx_takemay (i := 21) (g := (d.busy && (decide (0 < d.waits)))) (v := .pointer (some ⟨be, 0, none⟩)) fr rfl (by kernel_rfl) rfl rfl rfl (by simp) rfl (by first | decide | simp) (fun _ _ _ _ h => h) (fun hg _ ⟨hW, hE, hH, hI, hQ, hO, B4, _⟩ => x_load1 pl78 rfl ((fr.ev rfl).trans (onlyIf_t hg)) (hW.cell 1 rfl)) ⟨hW, hE, hH, hI, hQ, hO, B4, trivial⟩ ?_
  clear fr a; intro a fr
  refine fx_takemay (i := 22) (g := (d.busy && (decide (0 < d.waits)))) (v := .pointer (some ⟨be, 0, none⟩)) fr rfl (by kernel_rfl) rfl rfl rfl (by simp) rfl (by first | decide | simp) (fun _ _ _ _ h => h) (fun hg _ ⟨hW, hE, hH, hI, hQ, hO, B4, _⟩ => x_nilCheck rfl ((fr.ev rfl).trans (onlyIf_t hg))) ⟨hW, hE, hH, hI, hQ, hO, B4, trivial⟩ ?_
  clear fr a; intro a fr
  refine fx_takemay (i := 23) (g := (d.busy && (decide (0 < d.waits)))) (v := .pointer (some ⟨be, 0, none⟩)) fr rfl (by kernel_rfl) rfl rfl rfl (by simp) rfl (by first | decide | simp) (fun _ _ _ _ h => h) (fun hg _ ⟨hW, hE, hH, hI, hQ, hO, B4, _⟩ => x_fieldAddr fo42_0 rfl ((fr.ev rfl).trans (onlyIf_t hg)) rfl) ⟨hW, hE, hH, hI, hQ, hO, B4, trivial⟩ ?_
  clear fr a; intro a fr
  refine fx_takemay (i := 24) (g := (d.busy && (decide (0 < d.waits)))) (v := .int .i64 d.o) fr rfl (by kernel_rfl) rfl rfl rfl (by simp) rfl (by first | decide | simp) (fun _ _ _ _ h => h) (fun hg _ ⟨hW, hE, hH, hI, hQ, hO, B4, _⟩ => x_load1 pl3 rfl ((fr.ev rfl).trans (onlyIf_t hg)) (hE.cell 0 rfl)) ⟨hW, hE, hH, hI, hQ, hO, B4, trivial⟩ ?_
  clear fr a; intro a fr
  refine fx_takemay (i := 25) (g := (d.busy && (decide (0 < d.waits)))) (v := .bool (decide (d.o < 0))) fr rfl (by kernel_rfl) rfl rfl rfl (by simp) rfl (by first | decide | simp) (fun _ _ _ _ h => h) (fun hg _ ⟨hW, hE, hH, hI, hQ, hO, B4, _⟩ => x_lss rfl ((fr.ev rfl).trans (onlyIf_t hg)) rfl rfl) ⟨hW, hE, hH, hI, hQ, hO, B4, trivial⟩ ?_
  clear fr a; intro a fr
  refine fx_take (i := 26) (v := .bool ((d.busy && (decide (0 < d.waits))) && (decide (d.o < 0)))) fr rfl (by kernel_rfl) rfl rfl (by first | decide | simp) (fun _ _ _ h => h) (fun _ ⟨hW, hE, hH, hI, hQ, hO, B4, _⟩ => x_pick_and rfl (fr.ev rfl) (fun hb => ((fr.ev rfl)).trans (onlyIf_t (by simp_all))) (fun _ => rfl) rfl) ⟨hW, hE, hH, hI, hQ, hO, B4, trivial⟩ ?_
  clear fr a; intro a fr
  refine fx_take (i := 27) (v := .bool ((d.busy && (decide (0 < d.waits))) && (decide (d.o < 0)))) fr rfl (by kernel_rfl) rfl rfl (by first | decide | simp) (fun _ _ _ h => h) (fun _ ⟨hW, hE, hH, hI, hQ, hO, B4, _⟩ => x_move rfl (fr.ev rfl)) ⟨hW, hE, hH, hI, hQ, hO, B4, trivial⟩ ?_
  clear fr a; intro a fr
  refine fx_takemay (i := 28) (g := ((d.busy && (decide (0 < d.waits))) && (decide (d.o < 0)))) (v := .pointer (some ⟨bw, 0, none⟩)) fr rfl (by kernel_rfl) rfl rfl rfl (by simp) rfl (by first | decide | simp) (fun _ _ _ _ h => h) (fun hg _ ⟨hW, hE, hH, hI, hQ, hO, B4, _⟩ => x_move rfl (fr.ev rfl)) ⟨hW, hE, hH, hI, hQ, hO, B4, trivial⟩ ?_
  clear fr a; intro a fr
  refine fx_takemay (i := 29) (g := ((d.busy && (decide (0 < d.waits))) && (decide (d.o < 0)))) (v := .pointer (some ⟨bw, 0, none⟩)) fr rfl (by kernel_rfl) rfl rfl rfl (by simp) rfl (by first | decide | simp) (fun _ _ _ _ h => h) (fun hg _ ⟨hW, hE, hH, hI, hQ, hO, B4, _⟩ => x_nilCheck rfl ((fr.ev rfl).trans (onlyIf_t hg))) ⟨hW, hE, hH, hI, hQ, hO, B4, trivial⟩ ?_
  clear fr a; intro a fr
  refine fx_takemay (i := 30) (g := ((d.busy && (decide (0 < d.waits))) && (decide (d.o < 0)))) (v := .pointer (some ⟨bw, 1, none⟩)) fr rfl (by kernel_rfl) rfl rfl rfl (by simp) rfl (by first | decide | simp) (fun _ _ _ _ h => h) (fun hg _ ⟨hW, hE, hH, hI, hQ, hO, B4, _⟩ => x_fieldAddr fo82_1 rfl ((fr.ev rfl).trans (onlyIf_t hg)) rfl) ⟨hW, hE, hH, hI, hQ, hO, B4, trivial⟩ ?_
  clear fr a; intro a fr
  refine fx_takemay (i := 31) (g := ((d.busy && (decide (0 < d.waits))) && (decide (d.o < 0)))) (v := .pointer (some ⟨be, 0, none⟩)) fr rfl (by kernel_rfl) rfl rfl rfl (by simp) rfl (by first | decide | simp) (fun _ _ _ _ h => h) (fun hg _ ⟨hW, hE, hH, hI, hQ, hO, B4, _⟩ => x_load1 pl78 rfl ((fr.ev rfl).trans (onlyIf_t hg)) (hW.cell 1 rfl)) ⟨hW, hE, hH, hI, hQ, hO, B4, trivial⟩ ?_
  clear fr a; intro a fr
  refine fx_takemay (i := 32) (g := ((d.busy && (decide (0 < d.waits))) && (decide (d.o < 0)))) (v := .pointer (some ⟨b1, 1, none⟩)) fr rfl (by kernel_rfl) rfl rfl rfl (by simp) rfl (by first | decide | simp) (fun _ _ _ _ h => h) (fun hg _ ⟨hW, hE, hH, hI, hQ, hO, B4, _⟩ => x_fieldAddr fo36_1 rfl (fr.ev rfl) rfl) ⟨hW, hE, hH, hI, hQ, hO, B4, trivial⟩ ?_
  clear fr a; intro a fr
  refine fx_takemay (i := 33) (g := ((d.busy && (decide (0 < d.waits))) && (decide (d.o < 0)))) (v := .int .i64 m.src) fr rfl (by kernel_rfl) rfl rfl rfl (by simp) rfl (by first | decide | simp) (fun _ _ _ _ h => h) (fun hg _ ⟨hW, hE, hH, hI, hQ, hO, B4, _⟩ => x_load1 pl3 rfl ((fr.ev rfl).trans (onlyIf_t hg)) (B4.cell 1 rfl)) ⟨hW, hE, hH, hI, hQ, hO, B4, trivial⟩ ?_
  clear fr a; intro a fr
  refine fx_takemay (i := 34) (g := ((d.busy && (decide (0 < d.waits))) && (decide (d.o < 0)))) (v := .pointer (some ⟨be, 0, none⟩)) fr rfl (by kernel_rfl) rfl rfl rfl (by simp) rfl (by first | decide | simp) (fun _ _ _ _ h => h) (fun hg _ ⟨hW, hE, hH, hI, hQ, hO, B4, _⟩ => x_nilCheck rfl ((fr.ev rfl).trans (onlyIf_t hg))) ⟨hW, hE, hH, hI, hQ, hO, B4, trivial⟩ ?_
  clear fr a; intro a fr
  refine fx_takemay (i := 35) (g := ((d.busy && (decide (0 < d.waits))) && (decide (d.o < 0)))) (v := .pointer (some ⟨be, 1, none⟩)) fr rfl (by kernel_rfl) rfl rfl rfl (by simp) rfl (by first | decide | simp) (fun _ _ _ _ h => h) (fun hg _ ⟨hW, hE, hH, hI, hQ, hO, B4, _⟩ => x_fieldAddr fo42_1 rfl ((fr.ev rfl).trans (onlyIf_t hg)) rfl) ⟨hW, hE, hH, hI, hQ, hO, B4, trivial⟩ ?_
  clear fr a; intro a fr
  refine fx_takemay (i := 36) (g := ((d.busy && (decide (0 < d.waits))) && (decide (d.o < 0)))) (v := .pointer (some ⟨be, 1 + m.src.toNat, none⟩)) fr rfl (by kernel_rfl) rfl rfl rfl (by simp) rfl (by first | decide | simp) (fun _ _ _ _ h => h) (fun hg _ ⟨hW, hE, hH, hI, hQ, hO, B4, _⟩ => x_indexArr Try.underlying40 sz4 rfl ((fr.ev rfl).trans (onlyIf_t hg)) (((fr.ev rfl).trans (onlyIf_t hg)).trans (int_nat _ m.src (by omega))) (by omega) (by omega)) ⟨hW, hE, hH, hI, hQ, hO, B4, trivial⟩ ?_
  clear fr a; intro a fr
  refine fx_takemay (i := 37) (g := ((d.busy && (decide (0 < d.waits))) && (decide (d.o < 0)))) (v := .bool (d.sh.get m.src)) fr rfl (by kernel_rfl) rfl rfl rfl (by simp) rfl (by first | decide | simp) (fun _ _ _ _ h => h) (fun hg _ ⟨hW, hE, hH, hI, hQ, hO, B4, _⟩ => x_load1 pl4 rfl ((fr.ev rfl).trans (onlyIf_t hg)) (hE.cell _ (ent_sh _ _ m.src (by omega) (by omega)))) ⟨hW, hE, hH, hI, hQ, hO, B4, trivial⟩ ?_
  clear fr a; intro a fr
  refine fx_take (i := 38) (v := .bool (((d.busy && (decide (0 < d.waits))) && (decide (d.o < 0))) && (d.sh.get m.src))) fr rfl (by kernel_rfl) rfl rfl (by first | decide | simp) (fun _ _ _ h => h) (fun _ ⟨hW, hE, hH, hI, hQ, hO, B4, _⟩ => x_pick_and rfl (fr.ev rfl) (fun hb => ((fr.ev rfl)).trans (onlyIf_t (by simp_all))) (fun _ => rfl) rfl) ⟨hW, hE, hH, hI, hQ, hO, B4, trivial⟩ ?_
  clear fr a; intro a fr
  refine fx_take (i := 39) (v := .bool (((d.busy && (decide (0 < d.waits))) && (decide (d.o < 0))) && (d.sh.get m.src))) fr rfl (by kernel_rfl) rfl rfl (by first | decide | simp) (fun _ _ _ h => h) (fun _ ⟨hW, hE, hH, hI, hQ, hO, B4, _⟩ => x_move rfl (fr.ev rfl)) ⟨hW, hE, hH, hI, hQ, hO, B4, trivial⟩ ?_
  clear fr a; intro a fr
  refine fx_takemay (i := 40) (g := (((d.busy && (decide (0 < d.waits))) && (decide (d.o < 0))) && (d.sh.get m.src))) (v := .pointer (some ⟨b1, 1, none⟩)) fr rfl (by kernel_rfl) rfl rfl rfl (by simp) rfl (by first | decide | simp) (fun _ _ _ _ h => h) (fun hg _ ⟨hW, hE, hH, hI, hQ, hO, B4, _⟩ => x_fieldAddr fo36_1 rfl (fr.ev rfl) rfl) ⟨hW, hE, hH, hI, hQ, hO, B4, trivial⟩ ?_
  clear fr a; intro a fr
  refine fx_takemay (i := 41) (g := (((d.busy && (decide (0 < d.waits))) && (decide (d.o < 0))) && (d.sh.get m.src))) (v := .int .i64 m.src) fr rfl (by kernel_rfl) rfl rfl rfl (by simp) rfl (by first | decide | simp) (fun _ _ _ _ h => h) (fun hg _ ⟨hW, hE, hH, hI, hQ, hO, B4, _⟩ => x_load1 pl3 rfl ((fr.ev rfl).trans (onlyIf_t hg)) (B4.cell 1 rfl)) ⟨hW, hE, hH, hI, hQ, hO, B4, trivial⟩ ?_
  clear fr a; intro a fr
  refine fx_takemay (i := 42) (g := (((d.busy && (decide (0 < d.waits))) && (decide (d.o < 0))) && (d.sh.get m.src))) (v := .pointer (some ⟨bw, 0, none⟩)) fr rfl (by kernel_rfl) rfl rfl rfl (by simp) rfl (by first | decide | simp) (fun _ _ _ _ h => h) (fun hg _ ⟨hW, hE, hH, hI, hQ, hO, B4, _⟩ => x_move rfl (fr.ev rfl)) ⟨hW, hE, hH, hI, hQ, hO, B4, trivial⟩ ?_
  clear fr a; intro a fr
  refine fx_takemay (i := 43) (g := (((d.busy && (decide (0 < d.waits))) && (decide (d.o < 0))) && (d.sh.get m.src))) (v := .pointer (some ⟨bw, 0, none⟩)) fr rfl (by kernel_rfl) rfl rfl rfl (by simp) rfl (by first | decide | simp) (fun _ _ _ _ h => h) (fun hg _ ⟨hW, hE, hH, hI, hQ, hO, B4, _⟩ => x_nilCheck rfl ((fr.ev rfl).trans (onlyIf_t hg))) ⟨hW, hE, hH, hI, hQ, hO, B4, trivial⟩ ?_
  clear fr a; intro a fr
  refine fx_takemay (i := 44) (g := (((d.busy && (decide (0 < d.waits))) && (decide (d.o < 0))) && (d.sh.get m.src))) (v := .pointer (some ⟨bw, 1, none⟩)) fr rfl (by kernel_rfl) rfl rfl rfl (by simp) rfl (by first | decide | simp) (fun _ _ _ _ h => h) (fun hg _ ⟨hW, hE, hH, hI, hQ, hO, B4, _⟩ => x_fieldAddr fo82_1 rfl ((fr.ev rfl).trans (onlyIf_t hg)) rfl) ⟨hW, hE, hH, hI, hQ, hO, B4, trivial⟩ ?_
  clear fr a; intro a fr
  refine fx_takemay (i := 45) (g := (((d.busy && (decide (0 < d.waits))) && (decide (d.o < 0))) && (d.sh.get m.src))) (v := .pointer (some ⟨be, 0, none⟩)) fr rfl (by kernel_rfl) rfl rfl rfl (by simp) rfl (by first | decide | simp) (fun _ _ _ _ h => h) (fun hg _ ⟨hW, hE, hH, hI, hQ, hO, B4, _⟩ => x_load1 pl78 rfl ((fr.ev rfl).trans (onlyIf_t hg)) (hW.cell 1 rfl)) ⟨hW, hE, hH, hI, hQ, hO, B4, trivial⟩ ?_
  clear fr a; intro a fr
  refine fx_takemay (i := 46) (g := (((d.busy && (decide (0 < d.waits))) && (decide (d.o < 0))) && (d.sh.get m.src))) (v := .pointer (some ⟨be, 0, none⟩)) fr rfl (by kernel_rfl) rfl rfl rfl (by simp) rfl (by first | decide | simp) (fun _ _ _ _ h => h) (fun hg _ ⟨hW, hE, hH, hI, hQ, hO, B4, _⟩ => x_nilCheck rfl ((fr.ev rfl).trans (onlyIf_t hg))) ⟨hW, hE, hH, hI, hQ, hO, B4, trivial⟩ ?_
  clear fr a; intro a fr
  refine fx_takemay (i := 47) (g := (((d.busy && (decide (0 < d.waits))) && (decide (d.o < 0))) && (d.sh.get m.src))) (v := .pointer (some ⟨be, 6, none⟩)) fr rfl (by kernel_rfl) rfl rfl rfl (by simp) rfl (by first | decide | simp) (fun _ _ _ _ h => h) (fun hg _ ⟨hW, hE, hH, hI, hQ, hO, B4, _⟩ => x_fieldAddr fo42_3 rfl ((fr.ev rfl).trans (onlyIf_t hg)) rfl) ⟨hW, hE, hH, hI, hQ, hO, B4, trivial⟩ ?_
  clear fr a; intro a fr
  refine fx_takemay (i := 48) (g := (((d.busy && (decide (0 < d.waits))) && (decide (d.o < 0))) && (d.sh.get m.src))) (v := .int .i64 d.asks) fr rfl (by kernel_rfl) rfl rfl rfl (by simp) rfl (by first | decide | simp) (fun _ _ _ _ h => h) (fun hg _ ⟨hW, hE, hH, hI, hQ, hO, B4, _⟩ => x_load1 pl3 rfl ((fr.ev rfl).trans (onlyIf_t hg)) (hE.cell 6 rfl)) ⟨hW, hE, hH, hI, hQ, hO, B4, trivial⟩ ?_
  clear fr a; intro a fr
  refine fx_takemay (i := 49) (g := (((d.busy && (decide (0 < d.waits))) && (decide (d.o < 0))) && (d.sh.get m.src))) (v := .bool (decide (m.src ≠ d.asks))) fr rfl (by kernel_rfl) rfl rfl rfl (by simp) rfl (by first | decide | simp) (fun _ _ _ _ h => h) (fun hg _ ⟨hW, hE, hH, hI, hQ, hO, B4, _⟩ => x_neq rfl ((fr.ev rfl).trans (onlyIf_t hg)) ((fr.ev rfl).trans (onlyIf_t hg)) rfl) ⟨hW, hE, hH, hI, hQ, hO, B4, trivial⟩ ?_
  clear fr a; intro a fr
  refine fx_take (i := 50) (v := .bool ((((d.busy && (decide (0 < d.waits))) && (decide (d.o < 0))) && (d.sh.get m.src)) && (decide (m.src ≠ d.asks)))) fr rfl (by kernel_rfl) rfl rfl (by first | decide | simp) (fun _ _ _ h => h) (fun _ ⟨hW, hE, hH, hI, hQ, hO, B4, _⟩ => x_pick_and rfl (fr.ev rfl) (fun hb => ((fr.ev rfl)).trans (onlyIf_t (by simp_all))) (fun _ => rfl) rfl) ⟨hW, hE, hH, hI, hQ, hO, B4, trivial⟩ ?_
  clear fr a; intro a fr
  refine fx_one (i := 51) (by kernel_rfl) (fx_op rfl ?_)
  refine fx_callp rfl (x_call (vs := [.bool ((((d.busy && (decide (0 < d.waits))) && (decide (d.o < 0))) && (d.sh.get m.src)) && (decide (m.src ≠ d.asks))), .int .i64 220]) rfl rfl ⟨(fr.ev rfl), rfl, trivial⟩ Try.func49 nm49 rfl) (must_nob (ack_nob hk hs) 220 _) ?_
  rintro _ _ ⟨rfl, rfl⟩
  refine fx_pt ?_
  refine fx_pend fr ?_
  exact ⟨_, rfl, rfl, hF⟩
set_option maxRecDepth 100000 in
set_option maxHeartbeats 4000000 in
theorem done_no {w : World} {bw be bh bi ig cap r : Nat} {d : Ent} {Q : Option Addr} {qc : Nat} {A : Option Addr} {ac : Nat} {out : List Msg} {bs : List UInt8} (m : Msg) (R : WorkR w bw be bh bi ig cap r m.line d Q qc A ac out bs) (hlen : out.length + 8 ≤ 1000000) (hsrc : 0 ≤ m.src ∧ m.src < 4) (hk : m.kind = 13) (hs : strayF d m = true) : Calls Try.prog 35 #[.pointer (some ⟨bw, 0, none⟩), .agg (msgE.arr m)] w (Pan fun c w' => c = stopE 220 ∧ New w w') := by
  obtain ⟨hW, hE, hH, hI, hQ, hO, hS⟩ := R
  have ne_bw_be := hS.ne_bw_be
  have ne_bw_bh := hS.ne_bw_bh
  have ne_bw_bi := hS.ne_bw_bi
  have ne_bw_ig := hS.ne_bw_ig
  have ne_be_bh := hS.ne_be_bh
  have ne_be_bi := hS.ne_be_bi
  have ne_be_ig := hS.ne_be_ig
  have ne_bh_bi := hS.ne_bh_bi
  have ne_bh_ig := hS.ne_bh_ig
  have ne_bi_ig := hS.ne_bi_ig
  have ap_Q_bw := hS.ap_Q_bw
  have ap_Q_be := hS.ap_Q_be
  have ap_Q_bh := hS.ap_Q_bh
  have ap_Q_bi := hS.ap_Q_bi
  have ap_Q_ig := hS.ap_Q_ig
  have ap_A_bw := hS.ap_A_bw
  have ap_A_be := hS.ap_A_be
  have ap_A_bh := hS.ap_A_bh
  have ap_A_bi := hS.ap_A_bi
  have ap_A_ig := hS.ap_A_ig
  have ap2_Q_A := hS.ap2_Q_A
  have hmn := m.hn
  have gA_A := fun g (hg : inA A g) => (Or.inl trivial : True ∨ w.heap.size ≤ g)
  have hF := Only.refl (fun _ => False) w
  refine fx_enter Try.func35 rfl (N := (103, [])) (T := [(0, .pointer (some ⟨bw, 0, none⟩)), (1, .agg (msgE.arr m))]) rfl (show 2 ≤ 103 by decide) ⟨rfl, rfl, trivial⟩ fun a fr => ?_
  refine wp_seq ?_
  refine wp_region_lit ?_  -- region 0
  refine fx_new fr rfl rfl (by first | decide | simp) (x_box (cs := msgE.arr m) rfl (fr.ev rfl) rfl) ?_
  clear fr a
  intro b1 w2 hN3 B4 hb5 a fr
  have ne_bw_b1 : NE bw b1 := NE.mk (Nat.lt_of_lt_of_le hW.lt hb5)
  have ne_be_b1 : NE be b1 := NE.mk (Nat.lt_of_lt_of_le hE.lt hb5)
  have ne_bh_b1 : NE bh b1 := NE.mk (Nat.lt_of_lt_of_le hH.lt hb5)
  have ne_bi_b1 : NE bi b1 := NE.mk (Nat.lt_of_lt_of_le hI.lt.1 hb5)
  have ne_ig_b1 : NE ig b1 := NE.mk (Nat.lt_of_lt_of_le hI.lt.2 hb5)
  have ap_Q_b1 : Apart Q b1 := hQ.apart hb5
  have ap_A_b1 : Apart A b1 := hO.apart hb5
  have g_b1 := Nat.le_trans hF.size hb5
  replace hW := hW.new hN3
  replace hE := hE.new hN3
  replace hH := hH.new hN3
  replace hI := hI.new hN3
  replace hQ := hQ.new hN3
  replace hO := hO.new hN3
  replace hF := hF.trNew hN3
  refine wpList_nil ?_
  refine fx_next ?_
  refine wp_seq ?_
  refine fx_held (n := 29) (fun w => Blk w bw 82 #[.slice A out.length ac, .pointer (some ⟨be, 0, none⟩), .pointer (some ⟨bh, 0, none⟩), .int .u32 m.line] ∧ Blk w be 42 (entA d (.slice Q d.q.length qc)) ∧ Blk w bh 64 #[.pointer (some ⟨bi, 0, none⟩), .map (some r)] ∧ Img 0 w bi ig cap bs ∧ View msgE w Q qc d.q ∧ Own msgE w A ac out ∧ Blk w b1 36 (msgE.arr m) ∧ True) (by kernel_rfl) rfl ?_  -- region 1
  intro w6 hN7
  replace hW := hW.new hN7
  replace hE := hE.new hN7
  replace hH := hH.new hN7
  replace hI := hI.new hN7
  replace hQ := hQ.new hN7
  replace hO := hO.new hN7
  replace B4 := B4.new hN7
  replace hF := hF.trNew hN7
  refine fx_take (i := 0) (v := .pointer (some ⟨bw, 0, none⟩)) fr rfl (by kernel_rfl) rfl rfl (by first | decide | simp) (fun _ _ _ h => h) (fun _ ⟨hW, hE, hH, hI, hQ, hO, B4, _⟩ => x_move rfl (fr.ev rfl)) ⟨hW, hE, hH, hI, hQ, hO, B4, trivial⟩ ?_
  clear fr a; intro a fr
  refine fx_take (i := 1) (v := .pointer (some ⟨bw, 0, none⟩)) fr rfl (by kernel_rfl) rfl rfl (by first | decide | simp) (fun _ _ _ h => h) (fun _ ⟨hW, hE, hH, hI, hQ, hO, B4, _⟩ => x_nilCheck rfl (fr.ev rfl)) ⟨hW, hE, hH, hI, hQ, hO, B4, trivial⟩ ?_
  clear fr a; intro a fr
  refine fx_take (i := 2) (v := .pointer (some ⟨bw, 1, none⟩)) fr rfl (by kernel_rfl) rfl rfl (by first | decide | simp) (fun _ _ _ h => h) (fun _ ⟨hW, hE, hH, hI, hQ, hO, B4, _⟩ => x_fieldAddr fo82_1 rfl (fr.ev rfl) rfl) ⟨hW, hE, hH, hI, hQ, hO, B4, trivial⟩ ?_
  clear fr a; intro a fr
  refine fx_take (i := 3) (v := .pointer (some ⟨be, 0, none⟩)) fr rfl (by kernel_rfl) rfl rfl (by first | decide | simp) (fun _ _ _ h => h) (fun _ ⟨hW, hE, hH, hI, hQ, hO, B4, _⟩ => x_load1 pl78 rfl (fr.ev rfl) (hW.cell 1 rfl)) ⟨hW, hE, hH, hI, hQ, hO, B4, trivial⟩ ?_
  clear fr a; intro a fr
  refine fx_take (i := 4) (v := .pointer (some ⟨be, 0, none⟩)) fr rfl (by kernel_rfl) rfl rfl (by first | decide | simp) (fun _ _ _ h => h) (fun _ ⟨hW, hE, hH, hI, hQ, hO, B4, _⟩ => x_nilCheck rfl (fr.ev rfl)) ⟨hW, hE, hH, hI, hQ, hO, B4, trivial⟩ ?_
  clear fr a; intro a fr
  refine fx_take (i := 5) (v := .pointer (some ⟨be, 5, none⟩)) fr rfl (by kernel_rfl) rfl rfl (by first | decide | simp) (fun _ _ _ h => h) (fun _ ⟨hW, hE, hH, hI, hQ, hO, B4, _⟩ => x_fieldAddr fo42_2 rfl (fr.ev rfl) rfl) ⟨hW, hE, hH, hI, hQ, hO, B4, trivial⟩ ?_
  clear fr a; intro a fr
  refine fx_take (i := 6) (v := .bool d.busy) fr rfl (by kernel_rfl) rfl rfl (by first | decide | simp) (fun _ _ _ h => h) (fun _ ⟨hW, hE, hH, hI, hQ, hO, B4, _⟩ => x_load1 pl4 rfl (fr.ev rfl) (hE.cell 5 rfl)) ⟨hW, hE, hH, hI, hQ, hO, B4, trivial⟩ ?_
  clear fr a; intro a fr
  refine fx_take (i := 7) (v := .bool d.busy) fr rfl (by kernel_rfl) rfl rfl (by first | decide | simp) (fun _ _ _ h => h) (fun _ ⟨hW, hE, hH, hI, hQ, hO, B4, _⟩ => x_move rfl (fr.ev rfl)) ⟨hW, hE, hH, hI, hQ, hO, B4, trivial⟩ ?_
  clear fr a; intro a fr
  refine fx_takemay (i := 8) (g := d.busy) (v := .pointer (some ⟨bw, 0, none⟩)) fr rfl (by kernel_rfl) rfl rfl rfl (by simp) rfl (by first | decide | simp) (fun _ _ _ _ h => h) (fun hg _ ⟨hW, hE, hH, hI, hQ, hO, B4, _⟩ => x_move rfl (fr.ev rfl)) ⟨hW, hE, hH, hI, hQ, hO, B4, trivial⟩ ?_
  clear fr a; intro a fr
  refine fx_takemay (i := 9) (g := d.busy) (v := .pointer (some ⟨bw, 0, none⟩)) fr rfl (by kernel_rfl) rfl rfl rfl (by simp) rfl (by first | decide | simp) (fun _ _ _ _ h => h) (fun hg _ ⟨hW, hE, hH, hI, hQ, hO, B4, _⟩ => x_nilCheck rfl ((fr.ev rfl).trans (onlyIf_t hg))) ⟨hW, hE, hH, hI, hQ, hO, B4, trivial⟩ ?_
  clear fr a; intro a fr
  refine fx_takemay (i := 10) (g := d.busy) (v := .pointer (some ⟨bw, 1, none⟩)) fr rfl (by kernel_rfl) rfl rfl rfl (by simp) rfl (by first | decide | simp) (fun _ _ _ _ h => h) (fun hg _ ⟨hW, hE, hH, hI, hQ, hO, B4, _⟩ => x_fieldAddr fo82_1 rfl ((fr.ev rfl).trans (onlyIf_t hg)) rfl) ⟨hW, hE, hH, hI, hQ, hO, B4, trivial⟩ ?_
  clear fr a; intro a fr
  refine fx_takemay (i := 11) (g := d.busy) (v := .pointer (some ⟨be, 0, none⟩)) fr rfl (by kernel_rfl) rfl rfl rfl (by simp) rfl (by first | decide | simp) (fun _ _ _ _ h => h) (fun hg _ ⟨hW, hE, hH, hI, hQ, hO, B4, _⟩ => x_load1 pl78 rfl ((fr.ev rfl).trans (onlyIf_t hg)) (hW.cell 1 rfl)) ⟨hW, hE, hH, hI, hQ, hO, B4, trivial⟩ ?_
  clear fr a; intro a fr
  refine fx_takemay (i := 12) (g := d.busy) (v := .pointer (some ⟨be, 0, none⟩)) fr rfl (by kernel_rfl) rfl rfl rfl (by simp) rfl (by first | decide | simp) (fun _ _ _ _ h => h) (fun hg _ ⟨hW, hE, hH, hI, hQ, hO, B4, _⟩ => x_nilCheck rfl ((fr.ev rfl).trans (onlyIf_t hg))) ⟨hW, hE, hH, hI, hQ, hO, B4, trivial⟩ ?_
  clear fr a; intro a fr
  refine fx_takemay (i := 13) (g := d.busy) (v := .pointer (some ⟨be, 9, none⟩)) fr rfl (by kernel_rfl) rfl rfl rfl (by simp) rfl (by first | decide | simp) (fun _ _ _ _ h => h) (fun hg _ ⟨hW, hE, hH, hI, hQ, hO, B4, _⟩ => x_fieldAddr fo42_6 rfl ((fr.ev rfl).trans (onlyIf_t hg)) rfl) ⟨hW, hE, hH, hI, hQ, hO, B4, trivial⟩ ?_
  clear fr a; intro a fr
  refine fx_takemay (i := 14) (g := d.busy) (v := .bool d.told) fr rfl (by kernel_rfl) rfl rfl rfl (by simp) rfl (by first | decide | simp) (fun _ _ _ _ h => h) (fun hg _ ⟨hW, hE, hH, hI, hQ, hO, B4, _⟩ => x_load1 pl4 rfl ((fr.ev rfl).trans (onlyIf_t hg)) (hE.cell 9 rfl)) ⟨hW, hE, hH, hI, hQ, hO, B4, trivial⟩ ?_
  clear fr a; intro a fr
  refine fx_take (i := 15) (v := .bool (d.busy && d.told)) fr rfl (by kernel_rfl) rfl rfl (by first | decide | simp) (fun _ _ _ h => h) (fun _ ⟨hW, hE, hH, hI, hQ, hO, B4, _⟩ => x_pick_and rfl (fr.ev rfl) (fun hb => ((fr.ev rfl)).trans (onlyIf_t (by simp_all))) (fun _ => rfl) rfl) ⟨hW, hE, hH, hI, hQ, hO, B4, trivial⟩ ?_
  clear fr a; intro a fr
  refine fx_take (i := 16) (v := .bool (d.busy && d.told)) fr rfl (by kernel_rfl) rfl rfl (by first | decide | simp) (fun _ _ _ h => h) (fun _ ⟨hW, hE, hH, hI, hQ, hO, B4, _⟩ => x_move rfl (fr.ev rfl)) ⟨hW, hE, hH, hI, hQ, hO, B4, trivial⟩ ?_
  clear fr a; intro a fr
  refine fx_takemay (i := 17) (g := (d.busy && d.told)) (v := .pointer (some ⟨bw, 0, none⟩)) fr rfl (by kernel_rfl) rfl rfl rfl (by simp) rfl (by first | decide | simp) (fun _ _ _ _ h => h) (fun hg _ ⟨hW, hE, hH, hI, hQ, hO, B4, _⟩ => x_move rfl (fr.ev rfl)) ⟨hW, hE, hH, hI, hQ, hO, B4, trivial⟩ ?_
  clear fr a; intro a fr
  refine fx_takemay (i := 18) (g := (d.busy && d.told)) (v := .pointer (some ⟨bw, 0, none⟩)) fr rfl (by kernel_rfl) rfl rfl rfl (by simp) rfl (by first | decide | simp) (fun _ _ _ _ h => h) (fun hg _ ⟨hW, hE, hH, hI, hQ, hO, B4, _⟩ => x_nilCheck rfl ((fr.ev rfl).trans (onlyIf_t hg))) ⟨hW, hE, hH, hI, hQ, hO, B4, trivial⟩ ?_
  clear fr a; intro a fr
  refine fx_takemay (i := 19) (g := (d.busy && d.told)) (v := .pointer (some ⟨bw, 1, none⟩)) fr rfl (by kernel_rfl) rfl rfl rfl (by simp) rfl (by first | decide | simp) (fun _ _ _ _ h => h) (fun hg _ ⟨hW, hE, hH, hI, hQ, hO, B4, _⟩ => x_fieldAddr fo82_1 rfl ((fr.ev rfl).trans (onlyIf_t hg)) rfl) ⟨hW, hE, hH, hI, hQ, hO, B4, trivial⟩ ?_
  clear fr a; intro a fr
  refine fx_takemay (i := 20) (g := (d.busy && d.told)) (v := .pointer (some ⟨be, 0, none⟩)) fr rfl (by kernel_rfl) rfl rfl rfl (by simp) rfl (by first | decide | simp) (fun _ _ _ _ h => h) (fun hg _ ⟨hW, hE, hH, hI, hQ, hO, B4, _⟩ => x_load1 pl78 rfl ((fr.ev rfl).trans (onlyIf_t hg)) (hW.cell 1 rfl)) ⟨hW, hE, hH, hI, hQ, hO, B4, trivial⟩ ?_
  clear fr a; intro a fr
  refine fx_takemay (i := 21) (g := (d.busy && d.told)) (v := .pointer (some ⟨be, 0, none⟩)) fr rfl (by kernel_rfl) rfl rfl rfl (by simp) rfl (by first | decide | simp) (fun _ _ _ _ h => h) (fun hg _ ⟨hW, hE, hH, hI, hQ, hO, B4, _⟩ => x_nilCheck rfl ((fr.ev rfl).trans (onlyIf_t hg))) ⟨hW, hE, hH, hI, hQ, hO, B4, trivial⟩ ?_
  clear fr a; intro a fr
  refine fx_takemay (i := 22) (g := (d.busy && d.told)) (v := .pointer (some ⟨be, 6, none⟩)) fr rfl (by kernel_rfl) rfl rfl rfl (by simp) rfl (by first | decide | simp) (fun _ _ _ _ h => h) (fun hg _ ⟨hW, hE, hH, hI, hQ, hO, B4, _⟩ => x_fieldAddr fo42_3 rfl ((fr.ev rfl).trans (onlyIf_t hg)) rfl) ⟨hW, hE, hH, hI, hQ, hO, B4, trivial⟩ ?_
  clear fr a; intro a fr
  refine fx_takemay (i := 23) (g := (d.busy && d.told)) (v := .int .i64 d.asks) fr rfl (by kernel_rfl) rfl rfl rfl (by simp) rfl (by first | decide | simp) (fun _ _ _ _ h => h) (fun hg _ ⟨hW, hE, hH, hI, hQ, hO, B4, _⟩ => x_load1 pl3 rfl ((fr.ev rfl).trans (onlyIf_t hg)) (hE.cell 6 rfl)) ⟨hW, hE, hH, hI, hQ, hO, B4, trivial⟩ ?_
  clear fr a; intro a fr
  refine fx_takemay (i := 24) (g := (d.busy && d.told)) (v := .pointer (some ⟨b1, 1, none⟩)) fr rfl (by kernel_rfl) rfl rfl rfl (by simp) rfl (by first | decide | simp) (fun _ _ _ _ h => h) (fun hg _ ⟨hW, hE, hH, hI, hQ, hO, B4, _⟩ => x_fieldAddr fo36_1 rfl (fr.ev rfl) rfl) ⟨hW, hE, hH, hI, hQ, hO, B4, trivial⟩ ?_
  clear fr a; intro a fr
  refine fx_takemay (i := 25) (g := (d.busy && d.told)) (v := .int .i64 m.src) fr rfl (by kernel_rfl) rfl rfl rfl (by simp) rfl (by first | decide | simp) (fun _ _ _ _ h => h) (fun hg _ ⟨hW, hE, hH, hI, hQ, hO, B4, _⟩ => x_load1 pl3 rfl ((fr.ev rfl).trans (onlyIf_t hg)) (B4.cell 1 rfl)) ⟨hW, hE, hH, hI, hQ, hO, B4, trivial⟩ ?_
  clear fr a; intro a fr
  refine fx_takemay (i := 26) (g := (d.busy && d.told)) (v := .bool (decide (d.asks = m.src))) fr rfl (by kernel_rfl) rfl rfl rfl (by simp) rfl (by first | decide | simp) (fun _ _ _ _ h => h) (fun hg _ ⟨hW, hE, hH, hI, hQ, hO, B4, _⟩ => x_eql rfl ((fr.ev rfl).trans (onlyIf_t hg)) ((fr.ev rfl).trans (onlyIf_t hg)) rfl) ⟨hW, hE, hH, hI, hQ, hO, B4, trivial⟩ ?_
  clear fr a; intro a fr
  refine fx_take (i := 27) (v := .bool ((d.busy && d.told) && (decide (d.asks = m.src)))) fr rfl (by kernel_rfl) rfl rfl (by first | decide | simp) (fun _ _ _ h => h) (fun _ ⟨hW, hE, hH, hI, hQ, hO, B4, _⟩ => x_pick_and rfl (fr.ev rfl) (fun hb => ((fr.ev rfl)).trans (onlyIf_t (by simp_all))) (fun _ => rfl) rfl) ⟨hW, hE, hH, hI, hQ, hO, B4, trivial⟩ ?_
  clear fr a; intro a fr
  refine fx_one (i := 28) (by kernel_rfl) (fx_op rfl ?_)
  refine fx_callp rfl (x_call (vs := [.bool ((d.busy && d.told) && (decide (d.asks = m.src))), .int .i64 220]) rfl rfl ⟨(fr.ev rfl), rfl, trivial⟩ Try.func49 nm49 rfl) (must_nob (done_nob hk hs) 220 _) ?_
  rintro _ _ ⟨rfl, rfl⟩
  refine fx_pt ?_
  refine fx_pend fr ?_
  exact ⟨_, rfl, rfl, hF⟩
end Go.Proofs.Ytdiaemlgghfecaa
namespace Go.Proofs.Ytdiaemlgghfecaa
open Go.RowKit
def QOk (n : Int) (x : Msg) : Prop := 1 ≤ x.kind ∧ x.kind ≤ 3 ∧ (0 ≤ x.src ∧ x.src < 4) ∧ x.line = n
theorem drain_stop {b : Bool} {l : List Msg} (h : (!b && decide (0 < ((l.length : Nat) : Int))) = false) : b = true ∨ l = [] := by
  cases b
  · right
    cases l with
    | nil => rfl
    | cons x r => simp at h
  · exact .inl rfl
theorem drain_go {b : Bool} {l : List Msg} (h : (!b && decide (0 < ((l.length : Nat) : Int))) = true) : b = false ∧ 0 < l.length := by
  cases b
  · simp at h
    exact ⟨rfl, by omega⟩
  · simp at h
theorem getD_in {l : List Msg} {i : Nat} (h : i < l.length) : l.getD i msg0 ∈ l := by
  simp [List.getD, h]
theorem begin_ql {bs : List UInt8} {d : Ent} {m x : Msg} (h : x ∈ (beginF bs { d with q := d.q.drop 1 } m).1.q) : x ∈ d.q := by
  rw [begin_q] at h
  exact List.mem_of_mem_drop h
theorem begin_qn {bs : List UInt8} {d : Ent} {m : Msg} : (beginF bs { d with q := d.q.drop 1 } m).1.q.length = d.q.length - 1 := by
  rw [begin_q]
  simp
set_option maxRecDepth 100000 in
set_option maxHeartbeats 4000000 in
theorem done_ok {w : World} {bw be bh bi ig cap r : Nat} {o : Int} {sh : Sh} {asks : Int} {kind : Int} {q : List Msg} {Q : Option Addr} {qc : Nat} {A : Option Addr} {ac : Nat} {out : List Msg} {bs : List UInt8} (m : Msg) (R : WorkR w bw be bh bi ig cap r m.line (Ent.mk o sh true asks kind 0 true q) Q qc A ac out bs) (hlen : out.length + 8 ≤ 1000000) (hsrc : 0 ≤ m.src ∧ m.src < 4) (hk : m.kind = 13) (ha : asks = m.src) (hq : ∀ x ∈ q, QOk m.line x) (hlen5 : out.length + 8 + 5 * q.length ≤ 1000000) : Calls Try.prog 35 #[.pointer (some ⟨bw, 0, none⟩), .agg (msgE.arr m)] w (Ret fun v w' => v = .tuple #[] ∧ HRet w w' bw be bh bi ig cap r m.line Q A out (otherF bs (Ent.mk o sh true asks kind 0 true q) m)) := by
  obtain ⟨hW, hE, hH, hI, hQ, hO, hS⟩ := R
  have ne_bw_be := hS.ne_bw_be
  have ne_bw_bh := hS.ne_bw_bh
  have ne_bw_bi := hS.ne_bw_bi
  have ne_bw_ig := hS.ne_bw_ig
  have ne_be_bh := hS.ne_be_bh
  have ne_be_bi := hS.ne_be_bi
  have ne_be_ig := hS.ne_be_ig
  have ne_bh_bi := hS.ne_bh_bi
  have ne_bh_ig := hS.ne_bh_ig
  have ne_bi_ig := hS.ne_bi_ig
  have ap_Q_bw := hS.ap_Q_bw
  have ap_Q_be := hS.ap_Q_be
  have ap_Q_bh := hS.ap_Q_bh
  have ap_Q_bi := hS.ap_Q_bi
  have ap_Q_ig := hS.ap_Q_ig
  have ap_A_bw := hS.ap_A_bw
  have ap_A_be := hS.ap_A_be
  have ap_A_bh := hS.ap_A_bh
  have ap_A_bi := hS.ap_A_bi
  have ap_A_ig := hS.ap_A_ig
  have ap2_Q_A := hS.ap2_Q_A
  have gA_A : ∀ g, inA A g → (g = bw ∨ g = be ∨ g = ig ∨ inA A g ∨ inA Q g) ∨ w.heap.size ≤ g := fun g hg => .inl (.inr (.inr (.inr (.inl hg))))
  have hmn := m.hn
  have gA_Q : ∀ g, inA Q g → (g = bw ∨ g = be ∨ g = ig ∨ inA A g ∨ inA Q g) ∨ w.heap.size ≤ g := fun g hg => .inl (.inr (.inr (.inr (.inr hg))))
  have hF := Only.refl (fun k => k = bw ∨ k = be ∨ k = ig ∨ inA A k ∨ inA Q k) w
  refine fx_enter Try.func35 rfl (N := (103, [])) (T := [(0, .pointer (some ⟨bw, 0, none⟩)), (1, .agg (msgE.arr m))]) rfl (show 2 ≤ 103 by decide) ⟨rfl, rfl, trivial⟩ fun a fr => ?_
  refine wp_seq ?_
  refine wp_region_lit ?_  -- region 0
  refine fx_new fr rfl rfl (by first | decide | simp) (x_box (cs := msgE.arr m) rfl (fr.ev rfl) rfl) ?_
  clear fr a
  intro b1 w2 hN3 B4 hb5 a fr
  have ne_bw_b1 : NE bw b1 := NE.mk (Nat.lt_of_lt_of_le hW.lt hb5)
  have ne_be_b1 : NE be b1 := NE.mk (Nat.lt_of_lt_of_le hE.lt hb5)
  have ne_bh_b1 : NE bh b1 := NE.mk (Nat.lt_of_lt_of_le hH.lt hb5)
  have ne_bi_b1 : NE bi b1 := NE.mk (Nat.lt_of_lt_of_le hI.lt.1 hb5)
  have ne_ig_b1 : NE ig b1 := NE.mk (Nat.lt_of_lt_of_le hI.lt.2 hb5)
  have ap_Q_b1 : Apart Q b1 := hQ.apart hb5
  have ap_A_b1 : Apart A b1 := hO.apart hb5
  have g_b1 := Nat.le_trans hF.size hb5
  replace hW := hW.new hN3
  replace hE := hE.new hN3
  replace hH := hH.new hN3
  replace hI := hI.new hN3
  replace hQ := hQ.new hN3
  replace hO := hO.new hN3
  replace hF := hF.trNew hN3
  refine wpList_nil ?_
  refine fx_next ?_
  refine wp_seq ?_
  refine fx_held (n := 29) (fun w => Blk w bw 82 #[.slice A out.length ac, .pointer (some ⟨be, 0, none⟩), .pointer (some ⟨bh, 0, none⟩), .int .u32 m.line] ∧ Blk w be 42 (entA (Ent.mk o sh true asks kind 0 true q) (.slice Q q.length qc)) ∧ Blk w bh 64 #[.pointer (some ⟨bi, 0, none⟩), .map (some r)] ∧ Img 0 w bi ig cap bs ∧ View msgE w Q qc q ∧ Own msgE w A ac out ∧ Blk w b1 36 (msgE.arr m) ∧ True) (by kernel_rfl) rfl ?_  -- region 1
  intro w6 hN7
  replace hW := hW.new hN7
  replace hE := hE.new hN7
  replace hH := hH.new hN7
  replace hI := hI.new hN7
  replace hQ := hQ.new hN7
  replace hO := hO.new hN7
  replace B4 := B4.new hN7
  replace hF := hF.trNew hN7
  refine fx_take (i := 0) (v := .pointer (some ⟨bw, 0, none⟩)) fr rfl (by kernel_rfl) rfl rfl (by first | decide | simp) (fun _ _ _ h => h) (fun _ ⟨hW, hE, hH, hI, hQ, hO, B4, _⟩ => x_move rfl (fr.ev rfl)) ⟨hW, hE, hH, hI, hQ, hO, B4, trivial⟩ ?_
  clear fr a; intro a fr
  refine fx_take (i := 1) (v := .pointer (some ⟨bw, 0, none⟩)) fr rfl (by kernel_rfl) rfl rfl (by first | decide | simp) (fun _ _ _ h => h) (fun _ ⟨hW, hE, hH, hI, hQ, hO, B4, _⟩ => x_nilCheck rfl (fr.ev rfl)) ⟨hW, hE, hH, hI, hQ, hO, B4, trivial⟩ ?_
  clear fr a; intro a fr
  refine fx_take (i := 2) (v := .pointer (some ⟨bw, 1, none⟩)) fr rfl (by kernel_rfl) rfl rfl (by first | decide | simp) (fun _ _ _ h => h) (fun _ ⟨hW, hE, hH, hI, hQ, hO, B4, _⟩ => x_fieldAddr fo82_1 rfl (fr.ev rfl) rfl) ⟨hW, hE, hH, hI, hQ, hO, B4, trivial⟩ ?_
  clear fr a; intro a fr
  refine fx_take (i := 3) (v := .pointer (some ⟨be, 0, none⟩)) fr rfl (by kernel_rfl) rfl rfl (by first | decide | simp) (fun _ _ _ h => h) (fun _ ⟨hW, hE, hH, hI, hQ, hO, B4, _⟩ => x_load1 pl78 rfl (fr.ev rfl) (hW.cell 1 rfl)) ⟨hW, hE, hH, hI, hQ, hO, B4, trivial⟩ ?_
  clear fr a; intro a fr
  refine fx_take (i := 4) (v := .pointer (some ⟨be, 0, none⟩)) fr rfl (by kernel_rfl) rfl rfl (by first | decide | simp) (fun _ _ _ h => h) (fun _ ⟨hW, hE, hH, hI, hQ, hO, B4, _⟩ => x_nilCheck rfl (fr.ev rfl)) ⟨hW, hE, hH, hI, hQ, hO, B4, trivial⟩ ?_
  clear fr a; intro a fr
  refine fx_take (i := 5) (v := .pointer (some ⟨be, 5, none⟩)) fr rfl (by kernel_rfl) rfl rfl (by first | decide | simp) (fun _ _ _ h => h) (fun _ ⟨hW, hE, hH, hI, hQ, hO, B4, _⟩ => x_fieldAddr fo42_2 rfl (fr.ev rfl) rfl) ⟨hW, hE, hH, hI, hQ, hO, B4, trivial⟩ ?_
  clear fr a; intro a fr
  refine fx_take (i := 6) (v := .bool true) fr rfl (by kernel_rfl) rfl rfl (by first | decide | simp) (fun _ _ _ h => h) (fun _ ⟨hW, hE, hH, hI, hQ, hO, B4, _⟩ => x_load1 pl4 rfl (fr.ev rfl) (hE.cell 5 rfl)) ⟨hW, hE, hH, hI, hQ, hO, B4, trivial⟩ ?_
  clear fr a; intro a fr
  refine fx_take (i := 7) (v := .bool true) fr rfl (by kernel_rfl) rfl rfl (by first | decide | simp) (fun _ _ _ h => h) (fun _ ⟨hW, hE, hH, hI, hQ, hO, B4, _⟩ => x_move rfl (fr.ev rfl)) ⟨hW, hE, hH, hI, hQ, hO, B4, trivial⟩ ?_
  clear fr a; intro a fr
  refine fx_take (i := 8) (v := .pointer (some ⟨bw, 0, none⟩)) fr rfl (by kernel_rfl) (fr.want rfl rfl rfl) rfl (by first | decide | simp) (fun _ _ _ h => h) (fun _ ⟨hW, hE, hH, hI, hQ, hO, B4, _⟩ => x_move rfl (fr.ev rfl)) ⟨hW, hE, hH, hI, hQ, hO, B4, trivial⟩ ?_
  clear fr a; intro a fr
  refine fx_take (i := 9) (v := .pointer (some ⟨bw, 0, none⟩)) fr rfl (by kernel_rfl) (fr.want rfl rfl rfl) rfl (by first | decide | simp) (fun _ _ _ h => h) (fun _ ⟨hW, hE, hH, hI, hQ, hO, B4, _⟩ => x_nilCheck rfl (fr.ev rfl)) ⟨hW, hE, hH, hI, hQ, hO, B4, trivial⟩ ?_
  clear fr a; intro a fr
  refine fx_take (i := 10) (v := .pointer (some ⟨bw, 1, none⟩)) fr rfl (by kernel_rfl) (fr.want rfl rfl rfl) rfl (by first | decide | simp) (fun _ _ _ h => h) (fun _ ⟨hW, hE, hH, hI, hQ, hO, B4, _⟩ => x_fieldAddr fo82_1 rfl (fr.ev rfl) rfl) ⟨hW, hE, hH, hI, hQ, hO, B4, trivial⟩ ?_
  clear fr a; intro a fr
  refine fx_take (i := 11) (v := .pointer (some ⟨be, 0, none⟩)) fr rfl (by kernel_rfl) (fr.want rfl rfl rfl) rfl (by first | decide | simp) (fun _ _ _ h => h) (fun _ ⟨hW, hE, hH, hI, hQ, hO, B4, _⟩ => x_load1 pl78 rfl (fr.ev rfl) (hW.cell 1 rfl)) ⟨hW, hE, hH, hI, hQ, hO, B4, trivial⟩ ?_
  clear fr a; intro a fr
  refine fx_take (i := 12) (v := .pointer (some ⟨be, 0, none⟩)) fr rfl (by kernel_rfl) (fr.want rfl rfl rfl) rfl (by first | decide | simp) (fun _ _ _ h => h) (fun _ ⟨hW, hE, hH, hI, hQ, hO, B4, _⟩ => x_nilCheck rfl (fr.ev rfl)) ⟨hW, hE, hH, hI, hQ, hO, B4, trivial⟩ ?_
  clear fr a; intro a fr
  refine fx_take (i := 13) (v := .pointer (some ⟨be, 9, none⟩)) fr rfl (by kernel_rfl) (fr.want rfl rfl rfl) rfl (by first | decide | simp) (fun _ _ _ h => h) (fun _ ⟨hW, hE, hH, hI, hQ, hO, B4, _⟩ => x_fieldAddr fo42_6 rfl (fr.ev rfl) rfl) ⟨hW, hE, hH, hI, hQ, hO, B4, trivial⟩ ?_
  clear fr a; intro a fr
  refine fx_take (i := 14) (v := .bool true) fr rfl (by kernel_rfl) (fr.want rfl rfl rfl) rfl (by first | decide | simp) (fun _ _ _ h => h) (fun _ ⟨hW, hE, hH, hI, hQ, hO, B4, _⟩ => x_load1 pl4 rfl (fr.ev rfl) (hE.cell 9 rfl)) ⟨hW, hE, hH, hI, hQ, hO, B4, trivial⟩ ?_
  clear fr a; intro a fr
  refine fx_take (i := 15) (v := .bool true) fr rfl (by kernel_rfl) rfl rfl (by first | decide | simp) (fun _ _ _ h => h) (fun _ ⟨hW, hE, hH, hI, hQ, hO, B4, _⟩ => x_pick_t rfl (fr.ev rfl) (fr.ev rfl)) ⟨hW, hE, hH, hI, hQ, hO, B4, trivial⟩ ?_
  clear fr a; intro a fr
  refine fx_take (i := 16) (v := .bool true) fr rfl (by kernel_rfl) rfl rfl (by first | decide | simp) (fun _ _ _ h => h) (fun _ ⟨hW, hE, hH, hI, hQ, hO, B4, _⟩ => x_move rfl (fr.ev rfl)) ⟨hW, hE, hH, hI, hQ, hO, B4, trivial⟩ ?_
  clear fr a; intro a fr
  refine fx_take (i := 17) (v := .pointer (some ⟨bw, 0, none⟩)) fr rfl (by kernel_rfl) (fr.want rfl rfl rfl) rfl (by first | decide | simp) (fun _ _ _ h => h) (fun _ ⟨hW, hE, hH, hI, hQ, hO, B4, _⟩ => x_move rfl (fr.ev rfl)) ⟨hW, hE, hH, hI, hQ, hO, B4, trivial⟩ ?_
  clear fr a; intro a fr
  refine fx_take (i := 18) (v := .pointer (some ⟨bw, 0, none⟩)) fr rfl (by kernel_rfl) (fr.want rfl rfl rfl) rfl (by first | decide | simp) (fun _ _ _ h => h) (fun _ ⟨hW, hE, hH, hI, hQ, hO, B4, _⟩ => x_nilCheck rfl (fr.ev rfl)) ⟨hW, hE, hH, hI, hQ, hO, B4, trivial⟩ ?_
  clear fr a; intro a fr
  refine fx_take (i := 19) (v := .pointer (some ⟨bw, 1, none⟩)) fr rfl (by kernel_rfl) (fr.want rfl rfl rfl) rfl (by first | decide | simp) (fun _ _ _ h => h) (fun _ ⟨hW, hE, hH, hI, hQ, hO, B4, _⟩ => x_fieldAddr fo82_1 rfl (fr.ev rfl) rfl) ⟨hW, hE, hH, hI, hQ, hO, B4, trivial⟩ ?_
  clear fr a; intro a fr
  refine fx_take (i := 20) (v := .pointer (some ⟨be, 0, none⟩)) fr rfl (by kernel_rfl) (fr.want rfl rfl rfl) rfl (by first | decide | simp) (fun _ _ _ h => h) (fun _ ⟨hW, hE, hH, hI, hQ, hO, B4, _⟩ => x_load1 pl78 rfl (fr.ev rfl) (hW.cell 1 rfl)) ⟨hW, hE, hH, hI, hQ, hO, B4, trivial⟩ ?_
  clear fr a; intro a fr
  refine fx_take (i := 21) (v := .pointer (some ⟨be, 0, none⟩)) fr rfl (by kernel_rfl) (fr.want rfl rfl rfl) rfl (by first | decide | simp) (fun _ _ _ h => h) (fun _ ⟨hW, hE, hH, hI, hQ, hO, B4, _⟩ => x_nilCheck rfl (fr.ev rfl)) ⟨hW, hE, hH, hI, hQ, hO, B4, trivial⟩ ?_
  clear fr a; intro a fr
  refine fx_take (i := 22) (v := .pointer (some ⟨be, 6, none⟩)) fr rfl (by kernel_rfl) (fr.want rfl rfl rfl) rfl (by first | decide | simp) (fun _ _ _ h => h) (fun _ ⟨hW, hE, hH, hI, hQ, hO, B4, _⟩ => x_fieldAddr fo42_3 rfl (fr.ev rfl) rfl) ⟨hW, hE, hH, hI, hQ, hO, B4, trivial⟩ ?_
  clear fr a; intro a fr
  refine fx_take (i := 23) (v := .int .i64 asks) fr rfl (by kernel_rfl) (fr.want rfl rfl rfl) rfl (by first | decide | simp) (fun _ _ _ h => h) (fun _ ⟨hW, hE, hH, hI, hQ, hO, B4, _⟩ => x_load1 pl3 rfl (fr.ev rfl) (hE.cell 6 rfl)) ⟨hW, hE, hH, hI, hQ, hO, B4, trivial⟩ ?_
  clear fr a; intro a fr
  refine fx_take (i := 24) (v := .pointer (some ⟨b1, 1, none⟩)) fr rfl (by kernel_rfl) (fr.want rfl rfl rfl) rfl (by first | decide | simp) (fun _ _ _ h => h) (fun _ ⟨hW, hE, hH, hI, hQ, hO, B4, _⟩ => x_fieldAddr fo36_1 rfl (fr.ev rfl) rfl) ⟨hW, hE, hH, hI, hQ, hO, B4, trivial⟩ ?_
  clear fr a; intro a fr
  refine fx_take (i := 25) (v := .int .i64 m.src) fr rfl (by kernel_rfl) (fr.want rfl rfl rfl) rfl (by first | decide | simp) (fun _ _ _ h => h) (fun _ ⟨hW, hE, hH, hI, hQ, hO, B4, _⟩ => x_load1 pl3 rfl (fr.ev rfl) (B4.cell 1 rfl)) ⟨hW, hE, hH, hI, hQ, hO, B4, trivial⟩ ?_
  clear fr a; intro a fr
  refine fx_take (i := 26) (v := .bool true) fr rfl (by kernel_rfl) (fr.want rfl rfl rfl) rfl (by first | decide | simp) (fun _ _ _ h => h) (fun _ ⟨hW, hE, hH, hI, hQ, hO, B4, _⟩ => x_eql rfl (fr.ev rfl) (fr.ev rfl) (decide_eq_true ha)) ⟨hW, hE, hH, hI, hQ, hO, B4, trivial⟩ ?_
  clear fr a; intro a fr
  refine fx_take (i := 27) (v := .bool true) fr rfl (by kernel_rfl) rfl rfl (by first | decide | simp) (fun _ _ _ h => h) (fun _ ⟨hW, hE, hH, hI, hQ, hO, B4, _⟩ => x_pick_t rfl (fr.ev rfl) (fr.ev rfl)) ⟨hW, hE, hH, hI, hQ, hO, B4, trivial⟩ ?_
  clear fr a; intro a fr
  refine fx_one (i := 28) (by kernel_rfl) (fx_op rfl ?_)
  refine fx_call fr rfl rfl (by first | decide | simp) (x_call (vs := [.bool true, .int .i64 220]) rfl rfl ⟨(fr.ev rfl), rfl, trivial⟩ Try.func49 nm49 rfl) (must_ok 220 _) ?_
  clear fr a
  rintro v w9 ⟨rfl, hw9⟩ a fr
  obtain rfl := hw9.symm
  refine wpList_nil ?_
  refine ⟨⟨hW, hE, hH, hI, hQ, hO, B4, trivial⟩, ?_⟩
  refine fx_hdone (by kernel_rfl) ?_
  refine fx_next ?_
  refine wp_seq ?_
  refine fx_heldT (n := 25) (k := 25) (fun w => Blk w bw 82 #[.slice A out.length ac, .pointer (some ⟨be, 0, none⟩), .pointer (some ⟨bh, 0, none⟩), .int .u32 m.line] ∧ Blk w bh 64 #[.pointer (some ⟨bi, 0, none⟩), .map (some r)] ∧ Img 0 w bi ig cap bs ∧ View msgE w Q qc q ∧ Own msgE w A ac out ∧ Blk w b1 36 (msgE.arr m) ∧ True) (by kernel_rfl) (by kernel_rfl) rfl ?_  -- region 2
  intro w10 hN11
  replace hW := hW.new hN11
  replace hE := hE.new hN11
  replace hH := hH.new hN11
  replace hI := hI.new hN11
  replace hQ := hQ.new hN11
  replace hO := hO.new hN11
  replace B4 := B4.new hN11
  replace hF := hF.trNew hN11
  refine fx_take (i := 0) (v := .pointer (some ⟨bw, 0, none⟩)) fr rfl (by kernel_rfl) rfl rfl (by first | decide | simp) (fun _ _ _ h => h) (fun _ ⟨hW, hH, hI, hQ, hO, B4, _⟩ => x_move rfl (fr.ev rfl)) ⟨hW, hH, hI, hQ, hO, B4, trivial⟩ ?_
  clear fr a; intro a fr
  refine fx_take (i := 1) (v := .pointer (some ⟨bw, 0, none⟩)) fr rfl (by kernel_rfl) rfl rfl (by first | decide | simp) (fun _ _ _ h => h) (fun _ ⟨hW, hH, hI, hQ, hO, B4, _⟩ => x_nilCheck rfl (fr.ev rfl)) ⟨hW, hH, hI, hQ, hO, B4, trivial⟩ ?_
  clear fr a; intro a fr
  refine fx_take (i := 2) (v := .pointer (some ⟨bw, 1, none⟩)) fr rfl (by kernel_rfl) rfl rfl (by first | decide | simp) (fun _ _ _ h => h) (fun _ ⟨hW, hH, hI, hQ, hO, B4, _⟩ => x_fieldAddr fo82_1 rfl (fr.ev rfl) rfl) ⟨hW, hH, hI, hQ, hO, B4, trivial⟩ ?_
  clear fr a; intro a fr
  refine fx_take (i := 3) (v := .pointer (some ⟨be, 0, none⟩)) fr rfl (by kernel_rfl) rfl rfl (by first | decide | simp) (fun _ _ _ h => h) (fun _ ⟨hW, hH, hI, hQ, hO, B4, _⟩ => x_load1 pl78 rfl (fr.ev rfl) (hW.cell 1 rfl)) ⟨hW, hH, hI, hQ, hO, B4, trivial⟩ ?_
  clear fr a; intro a fr
  refine fx_take (i := 4) (v := .pointer (some ⟨bw, 0, none⟩)) fr rfl (by kernel_rfl) rfl rfl (by first | decide | simp) (fun _ _ _ h => h) (fun _ ⟨hW, hH, hI, hQ, hO, B4, _⟩ => x_move rfl (fr.ev rfl)) ⟨hW, hH, hI, hQ, hO, B4, trivial⟩ ?_
  clear fr a; intro a fr
  refine fx_take (i := 5) (v := .pointer (some ⟨bw, 0, none⟩)) fr rfl (by kernel_rfl) rfl rfl (by first | decide | simp) (fun _ _ _ h => h) (fun _ ⟨hW, hH, hI, hQ, hO, B4, _⟩ => x_nilCheck rfl (fr.ev rfl)) ⟨hW, hH, hI, hQ, hO, B4, trivial⟩ ?_
  clear fr a; intro a fr
  refine fx_take (i := 6) (v := .pointer (some ⟨bw, 1, none⟩)) fr rfl (by kernel_rfl) rfl rfl (by first | decide | simp) (fun _ _ _ h => h) (fun _ ⟨hW, hH, hI, hQ, hO, B4, _⟩ => x_fieldAddr fo82_1 rfl (fr.ev rfl) rfl) ⟨hW, hH, hI, hQ, hO, B4, trivial⟩ ?_
  clear fr a; intro a fr
  refine fx_take (i := 7) (v := .pointer (some ⟨be, 0, none⟩)) fr rfl (by kernel_rfl) rfl rfl (by first | decide | simp) (fun _ _ _ h => h) (fun _ ⟨hW, hH, hI, hQ, hO, B4, _⟩ => x_load1 pl78 rfl (fr.ev rfl) (hW.cell 1 rfl)) ⟨hW, hH, hI, hQ, hO, B4, trivial⟩ ?_
  clear fr a; intro a fr
  refine fx_take (i := 8) (v := .pointer (some ⟨bw, 0, none⟩)) fr rfl (by kernel_rfl) rfl rfl (by first | decide | simp) (fun _ _ _ h => h) (fun _ ⟨hW, hH, hI, hQ, hO, B4, _⟩ => x_move rfl (fr.ev rfl)) ⟨hW, hH, hI, hQ, hO, B4, trivial⟩ ?_
  clear fr a; intro a fr
  refine fx_take (i := 9) (v := .pointer (some ⟨bw, 0, none⟩)) fr rfl (by kernel_rfl) rfl rfl (by first | decide | simp) (fun _ _ _ h => h) (fun _ ⟨hW, hH, hI, hQ, hO, B4, _⟩ => x_nilCheck rfl (fr.ev rfl)) ⟨hW, hH, hI, hQ, hO, B4, trivial⟩ ?_
  clear fr a; intro a fr
  refine fx_take (i := 10) (v := .pointer (some ⟨bw, 1, none⟩)) fr rfl (by kernel_rfl) rfl rfl (by first | decide | simp) (fun _ _ _ h => h) (fun _ ⟨hW, hH, hI, hQ, hO, B4, _⟩ => x_fieldAddr fo82_1 rfl (fr.ev rfl) rfl) ⟨hW, hH, hI, hQ, hO, B4, trivial⟩ ?_
  clear fr a; intro a fr
  refine fx_take (i := 11) (v := .pointer (some ⟨be, 0, none⟩)) fr rfl (by kernel_rfl) rfl rfl (by first | decide | simp) (fun _ _ _ h => h) (fun _ ⟨hW, hH, hI, hQ, hO, B4, _⟩ => x_load1 pl78 rfl (fr.ev rfl) (hW.cell 1 rfl)) ⟨hW, hH, hI, hQ, hO, B4, trivial⟩ ?_
  clear fr a; intro a fr
  refine fx_take (i := 12) (v := .pointer (some ⟨bw, 0, none⟩)) fr rfl (by kernel_rfl) rfl rfl (by first | decide | simp) (fun _ _ _ h => h) (fun _ ⟨hW, hH, hI, hQ, hO, B4, _⟩ => x_move rfl (fr.ev rfl)) ⟨hW, hH, hI, hQ, hO, B4, trivial⟩ ?_
  clear fr a; intro a fr
  refine fx_take (i := 13) (v := .pointer (some ⟨bw, 0, none⟩)) fr rfl (by kernel_rfl) rfl rfl (by first | decide | simp) (fun _ _ _ h => h) (fun _ ⟨hW, hH, hI, hQ, hO, B4, _⟩ => x_nilCheck rfl (fr.ev rfl)) ⟨hW, hH, hI, hQ, hO, B4, trivial⟩ ?_
  clear fr a; intro a fr
  refine fx_take (i := 14) (v := .pointer (some ⟨bw, 1, none⟩)) fr rfl (by kernel_rfl) rfl rfl (by first | decide | simp) (fun _ _ _ h => h) (fun _ ⟨hW, hH, hI, hQ, hO, B4, _⟩ => x_fieldAddr fo82_1 rfl (fr.ev rfl) rfl) ⟨hW, hH, hI, hQ, hO, B4, trivial⟩ ?_
  clear fr a; intro a fr
  refine fx_take (i := 15) (v := .pointer (some ⟨be, 0, none⟩)) fr rfl (by kernel_rfl) rfl rfl (by first | decide | simp) (fun _ _ _ h => h) (fun _ ⟨hW, hH, hI, hQ, hO, B4, _⟩ => x_load1 pl78 rfl (fr.ev rfl) (hW.cell 1 rfl)) ⟨hW, hH, hI, hQ, hO, B4, trivial⟩ ?_
  clear fr a; intro a fr
  refine fx_take (i := 16) (v := .pointer (some ⟨be, 0, none⟩)) fr rfl (by kernel_rfl) rfl rfl (by first | decide | simp) (fun _ _ _ h => h) (fun _ ⟨hW, hH, hI, hQ, hO, B4, _⟩ => x_nilCheck rfl (fr.ev rfl)) ⟨hW, hH, hI, hQ, hO, B4, trivial⟩ ?_
  clear fr a; intro a fr
  refine fx_take (i := 17) (v := .pointer (some ⟨be, 5, none⟩)) fr rfl (by kernel_rfl) rfl rfl (by first | decide | simp) (fun _ _ _ h => h) (fun _ ⟨hW, hH, hI, hQ, hO, B4, _⟩ => x_fieldAddr fo42_2 rfl (fr.ev rfl) rfl) ⟨hW, hH, hI, hQ, hO, B4, trivial⟩ ?_
  clear fr a; intro a fr
  refine fx_one (i := 18) (by kernel_rfl) (fx_op rfl ?_)
  refine fx_store1 sz4 rfl rfl rfl (fr.ev rfl) rfl rfl hE (show 5 < 11 by decide) (cs' := entA ({ (Ent.mk o sh true asks kind 0 true q) with busy := false }) (.slice Q q.length qc)) rfl fun w12 hO13 hBq => ?_
  replace hW := hW.only hO13 (by first | exact ne_bw_be | exact ne_be_bw.symm | (show ¬ bw = be; omega))
  replace hH := hH.only hO13 (by first | exact ne_bh_be | exact ne_be_bh.symm | (show ¬ bh = be; omega))
  replace hI := hI.only hO13 (by first | exact ne_bi_be | exact ne_be_bi.symm | (show ¬ bi = be; omega)) (by first | exact ne_ig_be | exact ne_be_ig.symm | (show ¬ ig = be; omega))
  replace hQ := hQ.only hO13 (Apart.ne1 ap_Q_be)
  replace hO := hO.only hO13 (Apart.ne1 ap_A_be)
  replace B4 := B4.only hO13 (by first | exact ne_b1_be | exact ne_be_b1.symm | (show ¬ b1 = be; omega))
  replace hF := hF.loc hO13 (.inl (.inr (.inl rfl)))
  replace hE := hBq
  clear hBq
  refine wpList_nil ?_
  refine ⟨⟨hW, hH, hI, hQ, hO, B4, trivial⟩, ?_⟩
  refine fx_take (i := 19) (v := .pointer (some ⟨be, 0, none⟩)) fr rfl (by kernel_rfl) rfl rfl (by first | decide | simp) (fun _ _ _ h => h) (fun _ ⟨hW, hH, hI, hQ, hO, B4, _⟩ => x_nilCheck rfl (fr.ev rfl)) ⟨hW, hH, hI, hQ, hO, B4, trivial⟩ ?_
  clear fr a; intro a fr
  refine fx_take (i := 20) (v := .pointer (some ⟨be, 6, none⟩)) fr rfl (by kernel_rfl) rfl rfl (by first | decide | simp) (fun _ _ _ h => h) (fun _ ⟨hW, hH, hI, hQ, hO, B4, _⟩ => x_fieldAddr fo42_3 rfl (fr.ev rfl) rfl) ⟨hW, hH, hI, hQ, hO, B4, trivial⟩ ?_
  clear fr a; intro a fr
  refine fx_one (i := 21) (by kernel_rfl) (fx_op rfl ?_)
  refine fx_store1 sz3 rfl rfl rfl (fr.ev rfl) rfl rfl hE (show 6 < 11 by decide) (cs' := entA ({ { (Ent.mk o sh true asks kind 0 true q) with busy := false } with asks := 0 }) (.slice Q q.length qc)) rfl fun w14 hO15 hBq => ?_
  replace hW := hW.only hO15 (by first | exact ne_bw_be | exact ne_be_bw.symm | (show ¬ bw = be; omega))
  replace hH := hH.only hO15 (by first | exact ne_bh_be | exact ne_be_bh.symm | (show ¬ bh = be; omega))
  replace hI := hI.only hO15 (by first | exact ne_bi_be | exact ne_be_bi.symm | (show ¬ bi = be; omega)) (by first | exact ne_ig_be | exact ne_be_ig.symm | (show ¬ ig = be; omega))
  replace hQ := hQ.only hO15 (Apart.ne1 ap_Q_be)
  replace hO := hO.only hO15 (Apart.ne1 ap_A_be)
  replace B4 := B4.only hO15 (by first | exact ne_b1_be | exact ne_be_b1.symm | (show ¬ b1 = be; omega))
  replace hF := hF.loc hO15 (.inl (.inr (.inl rfl)))
  replace hE := hBq
  clear hBq
  refine wpList_nil ?_
  refine ⟨⟨hW, hH, hI, hQ, hO, B4, trivial⟩, ?_⟩
  refine fx_take (i := 22) (v := .pointer (some ⟨be, 0, none⟩)) fr rfl (by kernel_rfl) rfl rfl (by first | decide | simp) (fun _ _ _ h => h) (fun _ ⟨hW, hH, hI, hQ, hO, B4, _⟩ => x_nilCheck rfl (fr.ev rfl)) ⟨hW, hH, hI, hQ, hO, B4, trivial⟩ ?_
  clear fr a; intro a fr
  refine fx_take (i := 23) (v := .pointer (some ⟨be, 7, none⟩)) fr rfl (by kernel_rfl) rfl rfl (by first | decide | simp) (fun _ _ _ h => h) (fun _ ⟨hW, hH, hI, hQ, hO, B4, _⟩ => x_fieldAddr fo42_4 rfl (fr.ev rfl) rfl) ⟨hW, hH, hI, hQ, hO, B4, trivial⟩ ?_
  clear fr a; intro a fr
  refine fx_one (i := 24) (by kernel_rfl) (fx_op rfl ?_)
  refine fx_store1 sz33 rfl rfl rfl (fr.ev rfl) rfl rfl hE (show 7 < 11 by decide) (cs' := entA ({ { { (Ent.mk o sh true asks kind 0 true q) with busy := false } with asks := 0 } with kind := 0 }) (.slice Q q.length qc)) rfl fun w16 hO17 hBq => ?_
  replace hW := hW.only hO17 (by first | exact ne_bw_be | exact ne_be_bw.symm | (show ¬ bw = be; omega))
  replace hH := hH.only hO17 (by first | exact ne_bh_be | exact ne_be_bh.symm | (show ¬ bh = be; omega))
  replace hI := hI.only hO17 (by first | exact ne_bi_be | exact ne_be_bi.symm | (show ¬ bi = be; omega)) (by first | exact ne_ig_be | exact ne_be_ig.symm | (show ¬ ig = be; omega))
  replace hQ := hQ.only hO17 (Apart.ne1 ap_Q_be)
  replace hO := hO.only hO17 (Apart.ne1 ap_A_be)
  replace B4 := B4.only hO17 (by first | exact ne_b1_be | exact ne_be_b1.symm | (show ¬ b1 = be; omega))
  replace hF := hF.loc hO17 (.inl (.inr (.inl rfl)))
  replace hE := hBq
  clear hBq
  refine wpList_nil ?_
  refine ⟨⟨hW, hH, hI, hQ, hO, B4, trivial⟩, ?_⟩
  refine fx_hdone (by kernel_rfl) ?_
  refine fx_tail ?_
  refine fx_val (v := .pointer (some ⟨be, 0, none⟩)) fr rfl rfl (by first | decide | simp) (x_nilCheck rfl (fr.ev rfl)) ?_
  clear fr a; intro a fr
  refine fx_val (v := .pointer (some ⟨be, 9, none⟩)) fr rfl rfl (by first | decide | simp) (x_fieldAddr fo42_6 rfl (fr.ev rfl) rfl) ?_
  clear fr a; intro a fr
  refine fx_store1 sz4 rfl rfl rfl (fr.ev rfl) rfl rfl hE (show 9 < 11 by decide) (cs' := entA ({ { { { (Ent.mk o sh true asks kind 0 true q) with busy := false } with asks := 0 } with kind := 0 } with told := false }) (.slice Q q.length qc)) rfl fun w18 hO19 hBq => ?_
  replace hW := hW.only hO19 (by first | exact ne_bw_be | exact ne_be_bw.symm | (show ¬ bw = be; omega))
  replace hH := hH.only hO19 (by first | exact ne_bh_be | exact ne_be_bh.symm | (show ¬ bh = be; omega))
  replace hI := hI.only hO19 (by first | exact ne_bi_be | exact ne_be_bi.symm | (show ¬ bi = be; omega)) (by first | exact ne_ig_be | exact ne_be_ig.symm | (show ¬ ig = be; omega))
  replace hQ := hQ.only hO19 (Apart.ne1 ap_Q_be)
  replace hO := hO.only hO19 (Apart.ne1 ap_A_be)
  replace B4 := B4.only hO19 (by first | exact ne_b1_be | exact ne_be_b1.symm | (show ¬ b1 = be; omega))
  replace hF := hF.loc hO19 (.inl (.inr (.inl rfl)))
  replace hE := hBq
  clear hBq
  refine wpList_nil ?_
  refine fx_next ?_
  refine wp_block ?_
  refine fx_loop (fun nM a wL => ∃ d1 : Ent, ∃ bs1 : List UInt8, ∃ Q1 : Option Addr, ∃ qc1 : Nat, ∃ A1 : Option Addr, ∃ c1 : Nat, ∃ out1 : List Msg, nM = d1.q.length ∧ Fr (103, []) [(0, .pointer (some ⟨bw, 0, none⟩))] a ∧ Only (fun k => k = bw ∨ k = be ∨ k = ig ∨ inA A k ∨ inA Q k) w wL ∧ Blk wL bw 82 #[.slice A1 out1.length c1, .pointer (some ⟨be, 0, none⟩), .pointer (some ⟨bh, 0, none⟩), .int .u32 m.line] ∧ Blk wL be 42 (entA d1 (.slice Q1 d1.q.length qc1)) ∧ Blk wL bh 64 #[.pointer (some ⟨bi, 0, none⟩), .map (some r)] ∧ Img 0 wL bi ig cap bs1 ∧ View msgE wL Q1 qc1 d1.q ∧ Own msgE wL A1 c1 out1 ∧ addF out1 (drainF d1.q bs1 d1) = addF out (drainF q bs { { { { (Ent.mk o sh true asks kind 0 true q) with busy := false } with asks := 0 } with kind := 0 } with told := false }) ∧ (∀ x ∈ d1.q, QOk m.line x) ∧ out1.length + 8 + 5 * d1.q.length ≤ 1000000 ∧ (Apart Q1 bw) ∧ (Apart A1 bw) ∧ (Apart Q1 be) ∧ (Apart A1 be) ∧ (Apart Q1 bh) ∧ (Apart A1 bh) ∧ (Apart Q1 bi) ∧ (Apart Q1 ig) ∧ (Apart A1 bi) ∧ (Apart A1 ig) ∧ (Apart2 Q1 A1) ∧ (∀ g, inA Q1 g → (fun k => k = bw ∨ k = be ∨ k = ig ∨ inA A k ∨ inA Q k) g ∨ w.heap.size ≤ g) ∧ (∀ g, inA A1 g → (fun k => k = bw ∨ k = be ∨ k = ig ∨ inA A k ∨ inA Q k) g ∨ w.heap.size ≤ g)) (n0 := _) ⟨{ { { { (Ent.mk o sh true asks kind 0 true q) with busy := false } with asks := 0 } with kind := 0 } with told := false }, bs, Q, qc, A, ac, out, rfl, fr.sub ⟨rfl, trivial⟩, hF, hW, hE, hH, hI, hQ, hO, rfl, hq, hlen5, ap_Q_bw, ap_A_bw, ap_Q_be, ap_A_be, ap_Q_bh, ap_A_bh, ap_Q_bi, ap_Q_ig, ap_A_bi, ap_A_ig, ap2_Q_A, gA_Q, gA_A⟩ ?_
  rintro n21 a w20 ⟨d1, bs1, Q1, qc1, A1, c1, out1, rfl, fr, hF, hW, hE, hH, hI, hQ, O1, hp0, hp1, hp2, ap_Q1_bw, ap_A1_bw, ap_Q1_be, ap_A1_be, ap_Q1_bh, ap_A1_bh, ap_Q1_bi, ap_Q1_ig, ap_A1_bi, ap_A1_ig, ap2_Q1_A1, gA_Q1, gA_A1⟩
  refine wp_seq ?_
  refine wp_seq ?_
  refine wp_region_lit ?_  -- region 3
  refine fx_val (v := .pointer (some ⟨bw, 0, none⟩)) fr rfl rfl (by first | decide | simp) (x_move rfl (fr.ev rfl)) ?_
  clear fr a; intro a fr
  refine fx_val (v := .pointer (some ⟨bw, 0, none⟩)) fr rfl rfl (by first | decide | simp) (x_nilCheck rfl (fr.ev rfl)) ?_
  clear fr a; intro a fr
  refine fx_val (v := .pointer (some ⟨bw, 1, none⟩)) fr rfl rfl (by first | decide | simp) (x_fieldAddr fo82_1 rfl (fr.ev rfl) rfl) ?_
  clear fr a; intro a fr
  refine fx_val (v := .pointer (some ⟨be, 0, none⟩)) fr rfl rfl (by first | decide | simp) (x_load1 pl78 rfl (fr.ev rfl) (hW.cell 1 rfl)) ?_
  clear fr a; intro a fr
  refine fx_val (v := .pointer (some ⟨be, 0, none⟩)) fr rfl rfl (by first | decide | simp) (x_nilCheck rfl (fr.ev rfl)) ?_
  clear fr a; intro a fr
  refine fx_val (v := .pointer (some ⟨be, 5, none⟩)) fr rfl rfl (by first | decide | simp) (x_fieldAddr fo42_2 rfl (fr.ev rfl) rfl) ?_
  clear fr a; intro a fr
  refine fx_val (v := .bool d1.busy) fr rfl rfl (by first | decide | simp) (x_load1 pl4 rfl (fr.ev rfl) (hE.cell 5 rfl)) ?_
  clear fr a; intro a fr
  refine fx_val (v := .bool (!d1.busy)) fr rfl rfl (by first | decide | simp) (x_not rfl (fr.ev rfl) rfl) ?_
  clear fr a; intro a fr
  refine fx_val (v := .bool (!d1.busy)) fr rfl rfl (by first | decide | simp) (x_move rfl (fr.ev rfl)) ?_
  clear fr a; intro a fr
  refine fx_may (g := (!d1.busy)) (v := .pointer (some ⟨bw, 0, none⟩)) fr rfl rfl rfl (by simp) rfl (by first | decide | simp) (fun hg => x_move rfl (fr.ev rfl)) ?_
  clear fr a; intro a fr
  refine fx_may (g := (!d1.busy)) (v := .pointer (some ⟨bw, 0, none⟩)) fr rfl rfl rfl (by simp) rfl (by first | decide | simp) (fun hg => x_nilCheck rfl ((fr.ev rfl).trans (onlyIf_t hg))) ?_
  clear fr a; intro a fr
  refine fx_may (g := (!d1.busy)) (v := .pointer (some ⟨bw, 1, none⟩)) fr rfl rfl rfl (by simp) rfl (by first | decide | simp) (fun hg => x_fieldAddr fo82_1 rfl ((fr.ev rfl).trans (onlyIf_t hg)) rfl) ?_
  clear fr a; intro a fr
  refine fx_may (g := (!d1.busy)) (v := .pointer (some ⟨be, 0, none⟩)) fr rfl rfl rfl (by simp) rfl (by first | decide | simp) (fun hg => x_load1 pl78 rfl ((fr.ev rfl).trans (onlyIf_t hg)) (hW.cell 1 rfl)) ?_
  clear fr a; intro a fr
  refine fx_may (g := (!d1.busy)) (v := .pointer (some ⟨be, 0, none⟩)) fr rfl rfl rfl (by simp) rfl (by first | decide | simp) (fun hg => x_nilCheck rfl ((fr.ev rfl).trans (onlyIf_t hg))) ?_
  clear fr a; intro a fr
  refine fx_may (g := (!d1.busy)) (v := .pointer (some ⟨be, 10, none⟩)) fr rfl rfl rfl (by simp) rfl (by first | decide | simp) (fun hg => x_fieldAddr fo42_7 rfl ((fr.ev rfl).trans (onlyIf_t hg)) rfl) ?_
  clear fr a; intro a fr
  refine fx_may (g := (!d1.busy)) (v := .slice Q1 d1.q.length qc1) fr rfl rfl rfl (by simp) rfl (by first | decide | simp) (fun hg => x_load1 pl23 rfl ((fr.ev rfl).trans (onlyIf_t hg)) (hE.cell 10 rfl)) ?_
  clear fr a; intro a fr
  refine fx_may (g := (!d1.busy)) (v := .int .i64 ((d1.q.length : Nat) : Int)) fr rfl rfl rfl (by simp) rfl (by first | decide | simp) (fun hg => x_len Try.underlying23 rfl ((fr.ev rfl).trans (onlyIf_t hg))) ?_
  clear fr a; intro a fr
  refine fx_may (g := (!d1.busy)) (v := .bool (decide (0 < ((d1.q.length : Nat) : Int)))) fr rfl rfl rfl (by simp) rfl (by first | decide | simp) (fun hg => x_gtr rfl ((fr.ev rfl).trans (onlyIf_t hg)) rfl rfl) ?_
  clear fr a; intro a fr
  refine fx_val (v := .bool ((!d1.busy) && (decide (0 < ((d1.q.length : Nat) : Int))))) fr rfl rfl (by first | decide | simp) (x_pick_and rfl (fr.ev rfl) (fun hb => ((fr.ev rfl)).trans (onlyIf_t (by simp_all))) (fun _ => rfl) rfl) ?_
  clear fr a; intro a fr
  refine wpList_nil ?_
  refine fx_next ?_
  refine fx_cond fr rfl (fun hc22 => ?_) (fun hc22 => ?_)
  · skip
    have hc22s := hc22
    try simp at hc22s
    refine wp_skip ?_
    refine fx_next ?_
    refine wp_block ?_
    refine wp_seq ?_
    have hgo := drain_go hc22
    have hgo2 := hgo.2
    have hq1 := hp1 _ (getD_in hgo2)
    refine wp_region_lit ?_  -- region 4
    refine fx_val (v := .pointer (some ⟨bw, 0, none⟩)) fr rfl rfl (by first | decide | simp) (x_move rfl (fr.ev rfl)) ?_
    clear fr a; intro a fr
    refine fx_val (v := .pointer (some ⟨bw, 0, none⟩)) fr rfl rfl (by first | decide | simp) (x_nilCheck rfl (fr.ev rfl)) ?_
    clear fr a; intro a fr
    refine fx_val (v := .pointer (some ⟨bw, 1, none⟩)) fr rfl rfl (by first | decide | simp) (x_fieldAddr fo82_1 rfl (fr.ev rfl) rfl) ?_
    clear fr a; intro a fr
    refine fx_val (v := .pointer (some ⟨be, 0, none⟩)) fr rfl rfl (by first | decide | simp) (x_load1 pl78 rfl (fr.ev rfl) (hW.cell 1 rfl)) ?_
    clear fr a; intro a fr
    refine fx_val (v := .pointer (some ⟨be, 0, none⟩)) fr rfl rfl (by first | decide | simp) (x_nilCheck rfl (fr.ev rfl)) ?_
    clear fr a; intro a fr
    refine fx_val (v := .pointer (some ⟨be, 10, none⟩)) fr rfl rfl (by first | decide | simp) (x_fieldAddr fo42_7 rfl (fr.ev rfl) rfl) ?_
    clear fr a; intro a fr
    refine fx_val (v := .slice Q1 d1.q.length qc1) fr rfl rfl (by first | decide | simp) (x_load1 pl23 rfl (fr.ev rfl) (hE.cell 10 rfl)) ?_
    clear fr a; intro a fr
    obtain ⟨g23, o24, hA25⟩ := (hQ).some_ (by first | omega | decide)
    refine fx_val (v := .pointer (some ⟨g23, o24 + 0 * 20, none⟩)) fr rfl rfl (by first | decide | simp) (x_indexV Try.underlying23 sz36 rfl (fr.ev rfl) hA25 rfl (by first | omega | decide) rfl) ?_
    clear fr a; intro a fr
    refine fx_val (v := .agg (msgE.arr (d1.q.getD 0 msg0))) fr rfl rfl (by first | decide | simp) (x_loadE (E := msgE) ag36 rfl rfl (fr.ev rfl) ((hQ).elem hA25 0 msg0 (by omega))) ?_
    clear fr a; intro a fr
    refine fx_new fr rfl rfl (by first | decide | simp) (x_alloc (z := .agg (#[.int .i64 0, .int .i64 0, .int .i64 0, .int .u32 0, .int .u8 0, .int .u8 0, .int .u8 0, .int .u8 0, .int .u8 0, .int .u8 0, .int .u8 0, .int .u8 0, .int .u8 0, .int .u8 0, .int .u8 0, .int .u8 0, .int .u8 0, .int .u8 0, .int .u8 0, .int .u8 0])) (cs := msgE.arr msg0) rfl (by kernel_rfl) rfl) ?_
    clear fr a
    intro b26 w27 hN28 B29 hb30 a fr
    have ne_bw_b26 : NE bw b26 := NE.mk (Nat.lt_of_lt_of_le hW.lt hb30)
    have ne_be_b26 : NE be b26 := NE.mk (Nat.lt_of_lt_of_le hE.lt hb30)
    have ne_bh_b26 : NE bh b26 := NE.mk (Nat.lt_of_lt_of_le hH.lt hb30)
    have ne_bi_b26 : NE bi b26 := NE.mk (Nat.lt_of_lt_of_le hI.lt.1 hb30)
    have ne_ig_b26 : NE ig b26 := NE.mk (Nat.lt_of_lt_of_le hI.lt.2 hb30)
    have ap_Q1_b26 : Apart Q1 b26 := hQ.apart hb30
    have ap_A1_b26 : Apart A1 b26 := O1.apart hb30
    have g_b26 := Nat.le_trans hF.size hb30
    replace hW := hW.new hN28
    replace hE := hE.new hN28
    replace hH := hH.new hN28
    replace hI := hI.new hN28
    replace hQ := hQ.new hN28
    replace O1 := O1.new hN28
    replace hF := hF.trNew hN28
    refine fx_storeS sz36 rfl rfl rfl (fr.ev rfl) (fr.ev rfl) (msgE.all _) B29 (msgE.size _) (msgE.size _) fun w31 hO32 hBq => ?_
    replace hW := hW.only hO32 (by first | exact ne_bw_b26 | exact ne_b26_bw.symm | (show ¬ bw = b26; omega))
    replace hE := hE.only hO32 (by first | exact ne_be_b26 | exact ne_b26_be.symm | (show ¬ be = b26; omega))
    replace hH := hH.only hO32 (by first | exact ne_bh_b26 | exact ne_b26_bh.symm | (show ¬ bh = b26; omega))
    replace hI := hI.only hO32 (by first | exact ne_bi_b26 | exact ne_b26_bi.symm | (show ¬ bi = b26; omega)) (by first | exact ne_ig_b26 | exact ne_b26_ig.symm | (show ¬ ig = b26; omega))
    replace hQ := hQ.only hO32 (Apart.ne1 ap_Q1_b26)
    replace O1 := O1.only hO32 (Apart.ne1 ap_A1_b26)
    replace hF := hF.loc hO32 (.inr g_b26)
    replace B29 := hBq
    clear hBq
    refine wpList_nil ?_
    refine fx_next ?_
    refine wp_seq ?_
    refine fx_heldT (n := 12) (k := 12) (fun w => Blk w bw 82 #[.slice A1 out1.length c1, .pointer (some ⟨be, 0, none⟩), .pointer (some ⟨bh, 0, none⟩), .int .u32 m.line] ∧ Blk w be 42 (entA d1 (.slice Q1 d1.q.length qc1)) ∧ Blk w bh 64 #[.pointer (some ⟨bi, 0, none⟩), .map (some r)] ∧ Img 0 w bi ig cap bs1 ∧ View msgE w Q1 qc1 d1.q ∧ Own msgE w A1 c1 out1 ∧ Blk w b26 36 (msgE.arr (d1.q.getD 0 msg0)) ∧ True) (by kernel_rfl) (by kernel_rfl) rfl ?_  -- region 5
    intro w33 hN34
    replace hW := hW.new hN34
    replace hE := hE.new hN34
    replace hH := hH.new hN34
    replace hI := hI.new hN34
    replace hQ := hQ.new hN34
    replace O1 := O1.new hN34
    replace B29 := B29.new hN34
    replace hF := hF.trNew hN34
    refine fx_take (i := 0) (v := .pointer (some ⟨bw, 0, none⟩)) fr rfl (by kernel_rfl) rfl rfl (by first | decide | simp) (fun _ _ _ h => h) (fun _ ⟨hW, hE, hH, hI, hQ, O1, B29, _⟩ => x_move rfl (fr.ev rfl)) ⟨hW, hE, hH, hI, hQ, O1, B29, trivial⟩ ?_
    clear fr a; intro a fr
    refine fx_take (i := 1) (v := .pointer (some ⟨bw, 0, none⟩)) fr rfl (by kernel_rfl) rfl rfl (by first | decide | simp) (fun _ _ _ h => h) (fun _ ⟨hW, hE, hH, hI, hQ, O1, B29, _⟩ => x_nilCheck rfl (fr.ev rfl)) ⟨hW, hE, hH, hI, hQ, O1, B29, trivial⟩ ?_
    clear fr a; intro a fr
    refine fx_take (i := 2) (v := .pointer (some ⟨bw, 1, none⟩)) fr rfl (by kernel_rfl) rfl rfl (by first | decide | simp) (fun _ _ _ h => h) (fun _ ⟨hW, hE, hH, hI, hQ, O1, B29, _⟩ => x_fieldAddr fo82_1 rfl (fr.ev rfl) rfl) ⟨hW, hE, hH, hI, hQ, O1, B29, trivial⟩ ?_
    clear fr a; intro a fr
    refine fx_take (i := 3) (v := .pointer (some ⟨be, 0, none⟩)) fr rfl (by kernel_rfl) rfl rfl (by first | decide | simp) (fun _ _ _ h => h) (fun _ ⟨hW, hE, hH, hI, hQ, O1, B29, _⟩ => x_load1 pl78 rfl (fr.ev rfl) (hW.cell 1 rfl)) ⟨hW, hE, hH, hI, hQ, O1, B29, trivial⟩ ?_
    clear fr a; intro a fr
    refine fx_take (i := 4) (v := .pointer (some ⟨bw, 0, none⟩)) fr rfl (by kernel_rfl) rfl rfl (by first | decide | simp) (fun _ _ _ h => h) (fun _ ⟨hW, hE, hH, hI, hQ, O1, B29, _⟩ => x_move rfl (fr.ev rfl)) ⟨hW, hE, hH, hI, hQ, O1, B29, trivial⟩ ?_
    clear fr a; intro a fr
    refine fx_take (i := 5) (v := .pointer (some ⟨bw, 0, none⟩)) fr rfl (by kernel_rfl) rfl rfl (by first | decide | simp) (fun _ _ _ h => h) (fun _ ⟨hW, hE, hH, hI, hQ, O1, B29, _⟩ => x_nilCheck rfl (fr.ev rfl)) ⟨hW, hE, hH, hI, hQ, O1, B29, trivial⟩ ?_
    clear fr a; intro a fr
    refine fx_take (i := 6) (v := .pointer (some ⟨bw, 1, none⟩)) fr rfl (by kernel_rfl) rfl rfl (by first | decide | simp) (fun _ _ _ h => h) (fun _ ⟨hW, hE, hH, hI, hQ, O1, B29, _⟩ => x_fieldAddr fo82_1 rfl (fr.ev rfl) rfl) ⟨hW, hE, hH, hI, hQ, O1, B29, trivial⟩ ?_
    clear fr a; intro a fr
    refine fx_take (i := 7) (v := .pointer (some ⟨be, 0, none⟩)) fr rfl (by kernel_rfl) rfl rfl (by first | decide | simp) (fun _ _ _ h => h) (fun _ ⟨hW, hE, hH, hI, hQ, O1, B29, _⟩ => x_load1 pl78 rfl (fr.ev rfl) (hW.cell 1 rfl)) ⟨hW, hE, hH, hI, hQ, O1, B29, trivial⟩ ?_
    clear fr a; intro a fr
    refine fx_take (i := 8) (v := .pointer (some ⟨be, 0, none⟩)) fr rfl (by kernel_rfl) rfl rfl (by first | decide | simp) (fun _ _ _ h => h) (fun _ ⟨hW, hE, hH, hI, hQ, O1, B29, _⟩ => x_nilCheck rfl (fr.ev rfl)) ⟨hW, hE, hH, hI, hQ, O1, B29, trivial⟩ ?_
    clear fr a; intro a fr
    refine fx_take (i := 9) (v := .pointer (some ⟨be, 10, none⟩)) fr rfl (by kernel_rfl) rfl rfl (by first | decide | simp) (fun _ _ _ h => h) (fun _ ⟨hW, hE, hH, hI, hQ, O1, B29, _⟩ => x_fieldAddr fo42_7 rfl (fr.ev rfl) rfl) ⟨hW, hE, hH, hI, hQ, O1, B29, trivial⟩ ?_
    clear fr a; intro a fr
    refine fx_take (i := 10) (v := .slice Q1 d1.q.length qc1) fr rfl (by kernel_rfl) rfl rfl (by first | decide | simp) (fun _ _ _ h => h) (fun _ ⟨hW, hE, hH, hI, hQ, O1, B29, _⟩ => x_load1 pl23 rfl (fr.ev rfl) (hE.cell 10 rfl)) ⟨hW, hE, hH, hI, hQ, O1, B29, trivial⟩ ?_
    clear fr a; intro a fr
    refine fx_take (i := 11) (v := .slice (cutA Q1 qc1 1 20) (d1.q.length - 1) (qc1 - 1)) fr rfl (by kernel_rfl) rfl rfl (by first | decide | simp) (fun _ _ _ h => h) (fun _ ⟨hW, hE, hH, hI, hQ, O1, B29, _⟩ => x_slice_from Try.underlying23 sz36 rfl (fr.ev rfl) rfl (by omega)) ⟨hW, hE, hH, hI, hQ, O1, B29, trivial⟩ ?_
    clear fr a; intro a fr
    refine fx_hdone (by kernel_rfl) ?_
    refine fx_tail ?_
    refine fx_val (v := .pointer (some ⟨be, 0, none⟩)) fr rfl rfl (by first | decide | simp) (x_nilCheck rfl (fr.ev rfl)) ?_
    clear fr a; intro a fr
    refine fx_val (v := .pointer (some ⟨be, 10, none⟩)) fr rfl rfl (by first | decide | simp) (x_fieldAddr fo42_7 rfl (fr.ev rfl) rfl) ?_
    clear fr a; intro a fr
    refine fx_store1 sz23 rfl rfl rfl (fr.ev rfl) (fr.ev rfl) rfl hE (show 10 < 11 by decide) (cs' := entA ({ d1 with q := d1.q.drop 1 }) (.slice (cutA Q1 qc1 1 20) (d1.q.length - 1) (qc1 - 1))) rfl fun w35 hO36 hBq => ?_
    replace hW := hW.only hO36 (by first | exact ne_bw_be | exact ne_be_bw.symm | (show ¬ bw = be; omega))
    replace hH := hH.only hO36 (by first | exact ne_bh_be | exact ne_be_bh.symm | (show ¬ bh = be; omega))
    replace hI := hI.only hO36 (by first | exact ne_bi_be | exact ne_be_bi.symm | (show ¬ bi = be; omega)) (by first | exact ne_ig_be | exact ne_be_ig.symm | (show ¬ ig = be; omega))
    replace hQ := hQ.only hO36 (Apart.ne1 ap_Q1_be)
    replace O1 := O1.only hO36 (Apart.ne1 ap_A1_be)
    replace B29 := B29.only hO36 (by first | exact ne_b26_be | exact ne_be_b26.symm | (show ¬ b26 = be; omega))
    replace hF := hF.loc hO36 (.inl (.inr (.inl rfl)))
    replace hE := hBq
    clear hBq
    refine wpList_nil ?_
    refine fx_next ?_
    have hQ2v := hQ.drop 1 (by omega)
    have hcut : ∀ g, inA (cutA Q1 qc1 1 20) g → inA Q1 g := fun g hg => cut_in hQ hg
    have hE2 : Blk w35 be 42 (entA { d1 with q := d1.q.drop 1 } (.slice (cutA Q1 qc1 1 20) (d1.q.drop 1).length (qc1 - 1))) := by rw [List.length_drop]; exact hE
    clear hE
    change View msgE w35 (cutA Q1 qc1 1 20) (qc1 - 1) _ at hQ2v
    have ap_Q2_bw : Apart (cutA Q1 qc1 1 20) bw := fun h => ap_Q1_bw (hcut _ h)
    have ap_Q2_be : Apart (cutA Q1 qc1 1 20) be := fun h => ap_Q1_be (hcut _ h)
    have ap_Q2_bh : Apart (cutA Q1 qc1 1 20) bh := fun h => ap_Q1_bh (hcut _ h)
    have ap_Q2_bi : Apart (cutA Q1 qc1 1 20) bi := fun h => ap_Q1_bi (hcut _ h)
    have ap_Q2_ig : Apart (cutA Q1 qc1 1 20) ig := fun h => ap_Q1_ig (hcut _ h)
    have ap_Q2_b26 : Apart (cutA Q1 qc1 1 20) b26 := fun h => ap_Q1_b26 (hcut _ h)
    have ap2_Q2_A1 : Apart2 (cutA Q1 qc1 1 20) A1 := fun k h1 h2 => ap2_Q1_A1 k (hcut k h1) h2
    have gA_Q2 : ∀ g, inA (cutA Q1 qc1 1 20) g → _ := fun g hg => gA_Q1 g (hcut g hg)
    clear hQ hcut
    generalize cutA Q1 qc1 1 20 = Q2 at fr hE2 hQ2v ap_Q2_bw ap_Q2_be ap_Q2_bh ap_Q2_bi ap_Q2_ig ap_Q2_b26 ap2_Q2_A1 gA_Q2
    have hE := hE2
    have hQ := hQ2v
    clear hE2 hQ2v
    replace fr := fr.sub (T' := [(0, .pointer (some ⟨bw, 0, none⟩)), (4, .pointer (some ⟨b26, 0, none⟩))]) ⟨rfl, rfl, trivial⟩
    refine wp_region_lit ?_  -- region 6
    refine fx_val (v := .pointer (some ⟨bw, 0, none⟩)) fr rfl rfl (by first | decide | simp) (x_move rfl (fr.ev rfl)) ?_
    clear fr a; intro a fr
    refine fx_val (v := .agg (msgE.arr (d1.q.getD 0 msg0))) fr rfl rfl (by first | decide | simp) (x_loadE (E := msgE) ag36 rfl rfl (fr.ev rfl) (B29.rangeE msgE)) ?_
    clear fr a; intro a fr
    refine fx_call fr rfl rfl (by first | decide | simp) (x_call (vs := [.pointer (some ⟨bw, 0, none⟩), .agg (msgE.arr (d1.q.getD 0 msg0))]) rfl rfl ⟨(fr.ev rfl), (fr.ev rfl), trivial⟩ Try.func48 nm48 rfl) (begin_l (d1.q.getD 0 msg0) ⟨hW, hE, hH, hI, hQ, O1, ⟨ne_bw_be, ne_bw_bh, ne_bw_bi, ne_bw_ig, ne_be_bh, ne_be_bi, ne_be_ig, ne_bh_bi, ne_bh_ig, ne_bi_ig, ap_Q2_bw, ap_Q2_be, ap_Q2_bh, ap_Q2_bi, ap_Q2_ig, ap_A1_bw, ap_A1_be, ap_A1_bh, ap_A1_bi, ap_A1_ig, ap2_Q2_A1⟩⟩ (by first | omega | (simp only [List.length_append, List.length_cons, List.length_nil, List.length_map, List.length_take]; omega)) hq1.2.2.1 ⟨hq1.1, hq1.2.1⟩ hq1.2.2.2) ?_
    clear fr a
    rintro v w42 ⟨rfl, A37, ac38, R39, mv40, hN43⟩ a fr
    have ap_A37_b26 : Apart A37 b26 := moved_apart mv40 ap_A1_b26 B29.lt
    have gA_A37 := gA_moved hF mv40 gA_A1
    replace B29 := B29.only hN43 (fun h => h.elim (by first | exact ne_b26_bw | exact ne_bw_b26.symm | (show ¬ b26 = bw; omega)) (fun h => h.elim (by first | exact ne_b26_be | exact ne_be_b26.symm | (show ¬ b26 = be; omega)) (fun h => h.elim (by first | exact ne_b26_ig | exact ne_ig_b26.symm | (show ¬ b26 = ig; omega)) ap_A1_b26)))
    replace hF := hF.locS hN43 (fun i => (fun h => h.elim (fun e => by rw [e]; exact (.inl (.inl rfl))) (fun h => h.elim (fun e => by rw [e]; exact (.inl (.inr (.inl rfl)))) (fun h => h.elim (fun e => by rw [e]; exact (.inl (.inr (.inr (.inl rfl))))) (fun h => gA_A1 i h)))))
    clear hW hE hH hI hQ O1
    obtain ⟨hW, hE, hH, hI, hQ, O41, hS⟩ := R39
    have ap_A37_bw := hS.ap_A_bw
    have ap_A37_be := hS.ap_A_be
    have ap_A37_bh := hS.ap_A_bh
    have ap_A37_bi := hS.ap_A_bi
    have ap_A37_ig := hS.ap_A_ig
    have ap2_Q2_A37 := hS.ap2_Q_A
    have ap_Q2_bw := hS.ap_Q_bw
    have ap_Q2_be := hS.ap_Q_be
    have ap_Q2_bh := hS.ap_Q_bh
    have ap_Q2_bi := hS.ap_Q_bi
    have ap_Q2_ig := hS.ap_Q_ig
    refine wpList_nil ?_
    refine fx_blk ?_
    refine fx_next ?_
    have hbl := begin_len (bs := bs1) (d := { d1 with q := d1.q.drop 1 }) (m := d1.q.getD 0 msg0)
    have hbq := begin_qn (bs := bs1) (d := d1) (m := d1.q.getD 0 msg0)
    exact ⟨_, (by rw [hbq]; omega), (beginF bs1 { d1 with q := d1.q.drop 1 } (d1.q.getD 0 msg0)).1, (beginF bs1 { d1 with q := d1.q.drop 1 } (d1.q.getD 0 msg0)).2.1, Q2, (qc1 - 1), A37, ac38, (out1 ++ (beginF bs1 { d1 with q := d1.q.drop 1 } (d1.q.getD 0 msg0)).2.2), rfl, fr.sub ⟨rfl, trivial⟩, hF, hW, hE, hH, hI, hQ, O41, (drain_step hgo.1 hgo.2 _).trans hp0, fun x hx => hp1 x (begin_ql hx), (by rw [List.length_append, hbq]; omega), ap_Q2_bw, ap_A37_bw, ap_Q2_be, ap_A37_be, ap_Q2_bh, ap_A37_bh, ap_Q2_bi, ap_Q2_ig, ap_A37_bi, ap_A37_ig, ap2_Q2_A37, gA_Q2, gA_A37⟩
  · skip
    have hc22s := hc22
    try simp at hc22s
    refine wp_exit ?_
    refine fx_xt ?_
    refine fx_xt ?_
    refine fx_xx ?_
    refine fx_end fr [] [] rfl trivial rfl ?_
    have e0 := hp0
    rw [drain_end (drain_stop hc22)] at e0
    simp only [addF, Prod.mk.injEq] at e0
    obtain ⟨rfl, rfl, rfl⟩ := e0
    rw [other_d hk]
    exact ⟨_, rfl, rfl, Q1, qc1, A1, c1, ⟨hW, hE, hH, hI, hQ, O1, ⟨ne_bw_be, ne_bw_bh, ne_bw_bi, ne_bw_ig, ne_be_bh, ne_be_bi, ne_be_ig, ne_bh_bi, ne_bh_ig, ne_bi_ig, ap_Q1_bw, ap_Q1_be, ap_Q1_bh, ap_Q1_bi, ap_Q1_ig, ap_A1_bw, ap_A1_be, ap_A1_bh, ap_A1_bi, ap_A1_ig, ap2_Q1_A1⟩⟩, hmv gA_A1 ap_A1_bw ap_A1_be ap_A1_ig, hmv gA_Q1 ap_Q1_bw ap_Q1_be ap_Q1_ig, hF⟩
end Go.Proofs.Ytdiaemlgghfecaa
namespace Go.Proofs.Ytdiaemlgghfecaa
open Go.RowKit
theorem ent_all (d : Ent) (A : Option Addr) (n c : Nat) : (entA d (.slice A n c)).all (·.oneCell') = true := by
  simp [entA, Value.oneCell']
theorem x_deferv {P : Program} {w : World} {ev : Operand → Value} {o : Oper} {t f : Nat} {args : List Operand} {ts : Array TypeId} {vs : List Value} {cs : Array Value} (ho : o.op = .defer { callee := .value (.tmp t), args := args.toArray, argTypes := ts }) (hf0 : ev (.tmp t) = .func (.func f) #[] cs) (hv : Evs ev args vs) :
    (execOp ev o).run P w = .ok (.defer { target := .fn (.func f) cs, args := vs.toArray }) w := by
  simp [execOp, ho, resolve, hf0, Deferred.ofValue, hv.map]
theorem hsize_c {w : World} {bi ig cap : Nat} {bs : List UInt8} (hI : Img 0 w bi ig cap bs) : Calls Try.prog 28 #[.pointer (some ⟨bi, 0, none⟩)] w (Ret fun v w' => v = .int .i64 ((bs.length : Nat) : Int) ∧ w' = w) :=
  (size_some bi _ _ cap w hI.cell).mono fun _ _ ⟨h1, h2⟩ => ⟨_, h1, rfl, h2.symm⟩
theorem hicopy_c {w : World} {bi ig cap : Nat} {bs : List UInt8} (hI : Img 0 w bi ig cap bs) : Calls Try.prog 37 #[.pointer (some ⟨bi, 0, none⟩)] w (Ret fun v w' => ∃ b g c, v = .pointer (some ⟨b, 0, none⟩) ∧ Img 0 w' b g c bs ∧ w.heap.size ≤ b ∧ w.heap.size ≤ g ∧ NE b g ∧ New w w') :=
  (copy_some hI).mono fun _ _ ⟨b, g, c, h1, h2, h3⟩ => ⟨_, h1, b, g, c, rfl, h2.mono (Nat.zero_le _), h2.hb, h2.hg, h2.ne, h3⟩
structure Slot where
  k : Nat
  b : Nat
  A : Option Addr
  cap : Nat
  born : Nat
  deriving DecidableEq
def Slot.me (s : Slot) : MapEntry := ⟨.int .u32 ((s.k : Nat) : Int), .pointer (some ⟨s.b, 0, none⟩), s.born⟩
def esOf (L : List Slot) : Array MapEntry := (L.map Slot.me).toArray
def entOf (E : List Ent) (k : Nat) : Ent := E.getD k ent0
structure SlotAt (w : World) (d : Ent) (s : Slot) : Prop where
  blk : Blk w s.b 42 (entA d (.slice s.A d.q.length s.cap))
  q : View msgE w s.A s.cap d.q
structure EntsAt (w : World) (F : Nat → Prop) (r : Nat) (E : List Ent) (L : List Slot) (c : Nat) : Prop where
  map : MapBlk w r (esOf L) c
  lt_ : ∀ s ∈ L, s.k < E.length ∧ s.born < c
  at_ : ∀ s ∈ L, SlotAt w (entOf E s.k) s
  keys : (L.map Slot.k).Nodup
  borns : (L.map Slot.born).Nodup
  no : ∀ k, k ∉ L.map Slot.k → entOf E k = ent0
  foot : ∀ g, F g ↔ g = r ∨ ∃ s ∈ L, g = s.b ∨ inA s.A g
  ap : ∀ s ∈ L, ¬ s.b = r ∧ ¬ inA s.A r
section
variable {w w' : World} {F S : Nat → Prop} {r c : Nat} {E : List Ent} {L : List Slot}
theorem SlotAt.only {d : Ent} {s : Slot} (h : SlotAt w d s) (k : Only S w w') (h1 : ¬ S s.b) (h2 : ∀ g, inA s.A g → ¬ S g) : SlotAt w' d s := ⟨h.blk.only k h1, h.q.only k h2⟩
theorem EntsAt.only (h : EntsAt w F r E L c) (k : Only S w w') (hs : ∀ g, F g → ¬ S g) : EntsAt w' F r E L c :=
  ⟨h.map.only k (hs _ ((h.foot _).2 (.inl rfl))), h.lt_, fun s hS => (h.at_ s hS).only k (hs _ ((h.foot _).2 (.inr ⟨s, hS, .inl rfl⟩))) fun g hg => hs _ ((h.foot _).2 (.inr ⟨s, hS, .inr hg⟩)), h.keys, h.borns, h.no, h.foot, h.ap⟩
theorem EntsAt.new (h : EntsAt w F r E L c) (k : New w w') : EntsAt w' F r E L c := h.only k fun _ _ => id
theorem EntsAt.lt (h : EntsAt w F r E L c) {g : Nat} (hg : F g) : g < w.heap.size := by
  rcases (h.foot g).1 hg with rfl | ⟨s, hs, rfl | hg⟩
  · exact h.map.lt
  · exact (h.at_ s hs).blk.lt
  · exact (h.at_ s hs).q.lt hg
theorem EntsAt.apart (h : EntsAt w F r E L c) {b : Nat} (hb : w.heap.size ≤ b) : ¬ F b := fun hi => by have := h.lt hi; omega
theorem find_no {k : Nat} : ∀ (L : List Slot) (j : Nat), k ∉ L.map Slot.k → Instr.findNow (.int .u32) (.int .u32 ((k : Nat) : Int)) (L.map Slot.me) j = some none
  | [], _, _ => rfl
  | s :: L, j, h => by
    have h1 : ¬ k = s.k := fun e => h (by simp [e])
    have h2 : k ∉ L.map Slot.k := fun e => h (by simp at e ⊢; exact .inr e)
    have hne : ((k : Int) == (s.k : Int)) = false := by simp; omega
    simp only [List.map_cons, Instr.findNow, Slot.me, Instr.sameNow, if_true, hne]
    exact find_no L (j + 1) h2
theorem find_yes {s : Slot} : ∀ (L : List Slot) (j : Nat), s ∈ L → (L.map Slot.k).Nodup → ∃ i, L[i]? = some s ∧ Instr.findNow (.int .u32) (.int .u32 ((s.k : Nat) : Int)) (L.map Slot.me) j = some (some (j + i, .pointer (some ⟨s.b, 0, none⟩)))
  | [], _, h, _ => absurd h (by simp)
  | t :: L, j, h, hn => by
    rw [List.map_cons, List.nodup_cons] at hn
    by_cases hk : s.k = t.k
    · have hst : s = t := by
        rcases List.mem_cons.1 h with h | h
        · exact h
        · exact absurd (List.mem_map.2 ⟨s, h, hk⟩) hn.1
      subst hst
      exact ⟨0, rfl, by simp [Instr.findNow, Slot.me, Instr.sameNow]⟩
    · have hL : s ∈ L := by
        rcases List.mem_cons.1 h with h | h
        · exact absurd (by rw [h]) hk
        · exact h
      obtain ⟨i, h1, h2⟩ := find_yes L (j + 1) hL hn.2
      have hne : ((s.k : Int) == (t.k : Int)) = false := by simp; omega
      refine ⟨i + 1, by simpa using h1, ?_⟩
      simp only [List.map_cons, Instr.findNow, Slot.me, Instr.sameNow, if_true, hne]
      rw [show j + (i + 1) = j + 1 + i by omega]
      exact h2
theorem EntsAt.find_some (h : EntsAt w F r E L c) {s : Slot} (hs : s ∈ L) : (Instr.findNow (.int .u32) (.int .u32 ((s.k : Nat) : Int)) (esOf L).toList 0).map (fun q => (match q with | some (_, u) => u | none => .pointer none, q.isSome)) = some (.pointer (some ⟨s.b, 0, none⟩), true) := by
  obtain ⟨i, _, h2⟩ := find_yes L 0 hs h.keys
  rw [show (esOf L).toList = L.map Slot.me from rfl, h2]
  rfl
theorem EntsAt.find_none {k : Nat} (hs : k ∉ L.map Slot.k) : (Instr.findNow (.int .u32) (.int .u32 ((k : Nat) : Int)) (esOf L).toList 0).map (fun q => (match q with | some (_, u) => u | none => .pointer none, q.isSome)) = some (.pointer none, false) := by
  rw [show (esOf L).toList = L.map Slot.me from rfl, find_no L 0 hs]
  rfl
end
section
variable {P : Program} {N : Nat × List Deferred} {T : List (Nat × Value)} {a : Act} {w : World} {Q : Exit → Act → World → Prop} {ops : Array Oper} {rest : List Oper} {o : Oper} {d : Nat}
theorem run_keyStays (k : IntKind) (n : Int) (w : World) : (Instr.keyThatStays (.int k n) (.int k n)).run P w = .ok (.int k n) w := by
  have hs : Instr.sameBits 10000 (.int k n) (.int k n) = true := by
    unfold Instr.sameBits
    simp
  unfold Instr.keyThatStays
  rw [if_pos hs]
  rfl
theorem run_update_new {t K E : TypeId} {k : IntKind} {n : Int} {v : Value} {r c : Nat} {es : Array MapEntry} (ht : P.underlying t = some (.map K E)) (hK : P.underlying K = some (.int k)) (hM : MapBlk w r es c) (hf : Instr.findNow (.int k) (.int k n) es.toList 0 = some none) :
    (Instr.mapUpdate t (.map (some r)) (.int k n) v).run P w = .ok () { w with heap := w.heap.setIfInBounds r (.map (es.push ⟨.int k n, v, c⟩) (c + 1)) } := by
  simp [Instr.mapUpdate, run_underlying ht, MapKept.run_getObj_map hM, run_checkInt' hK, run_findNow' hK hf, MapKept.run_setObj_map _ hM, Result.andThen]
theorem run_update_old {t K E : TypeId} {k : IntKind} {n : Int} {v v0 : Value} {r c i : Nat} {es : Array MapEntry} {e : MapEntry} (ht : P.underlying t = some (.map K E)) (hK : P.underlying K = some (.int k)) (hM : MapBlk w r es c) (hf : Instr.findNow (.int k) (.int k n) es.toList 0 = some (some (i, v0))) (he : es[i]? = some e) (hk : e.key = .int k n) :
    (Instr.mapUpdate t (.map (some r)) (.int k n) v).run P w = .ok () { w with heap := w.heap.setIfInBounds r (.map (es.modify i fun e => { e with key := .int k n, val := v }) c) } := by
  simp [Instr.mapUpdate, run_underlying ht, MapKept.run_getObj_map hM, run_checkInt' hK, run_findNow' hK hf, he, hk, run_keyStays, MapKept.run_setObj_map _ hM, Result.andThen]
theorem set_only {r : Nat} {o' : Obj} (h : r < w.heap.size) : Only (fun j => j = r) w { w with heap := w.heap.setIfInBounds r o' } := ⟨rfl, rfl, rfl, by simp, fun j hj hs => by simp [show r ≠ j from fun h => hs h.symm]⟩
theorem set_map {r c : Nat} {es : Array MapEntry} (h : r < w.heap.size) : MapBlk { w with heap := w.heap.setIfInBounds r (.map es c) } r es c := by
  unfold MapBlk
  simp [h]
end
section
variable {w : World} {F : Nat → Prop} {r c : Nat} {E : List Ent} {L : List Slot} {T : List (Nat × Value)} {N : Nat × List Deferred} {a : Act} {Q : Exit → Act → World → Prop} {ops : Array Oper} {rest : List Oper} {o : Oper}
theorem entOf_set {n k : Nat} {d : Ent} (hn : n < E.length) : entOf (E.set n d) k = if k = n then d else entOf E k := by
  unfold entOf
  simp only [List.getD, List.getElem?_set]
  by_cases h : n = k
  · subst h; simp [hn]
  · rw [if_neg h, if_neg (fun e => h e.symm)]
theorem ents_put {n be qc : Nat} {A : Option Addr} {d : Ent} (hM : EntsAt w F r E L c) (hn : n < E.length) (hB : Blk w be 42 (entA d (.slice A d.q.length qc))) (hQ : View msgE w A qc d.q) (h1 : ¬ be = r) (h2 : ¬ inA A r) :
    ∃ w1 L' c' F', (Instr.mapUpdate 62 (.map (some r)) (.int .u32 ((n : Nat) : Int)) (.pointer (some ⟨be, 0, none⟩))).run Try.prog w = .ok () w1 ∧ Only (fun j => j = r) w w1 ∧ EntsAt w1 F' r (E.set n d) L' c' ∧ (∀ g, F' g → F g ∨ g = be ∨ inA A g) := by
  have hlt := hM.map.lt
  by_cases hk : n ∈ L.map Slot.k
  · obtain ⟨s, hs, hsk⟩ := List.mem_map.1 hk
    subst hsk
    obtain ⟨i, hi, hf⟩ := find_yes L 0 hs hM.keys
    rw [Nat.zero_add] at hf
    obtain ⟨hil, hie⟩ := List.getElem?_eq_some_iff.1 hi
    let s' : Slot := ⟨s.k, be, A, qc, s.born⟩
    have he : (esOf L)[i]? = some s.me := by simp [esOf, hi]
    have hes : (esOf L).modify i (fun e => { e with key := .int .u32 ((s.k : Nat) : Int), val := .pointer (some ⟨be, 0, none⟩) }) = esOf (L.set i s') := by
      unfold esOf
      rw [List.modify_toArray, List.map_set]
      congr 1
      apply List.ext_getElem
      · simp
      · intro j h3 h4
        rw [List.getElem_modify, List.getElem_set]
        by_cases hj : i = j
        · subst hj
          rw [if_pos rfl, if_pos rfl, List.getElem_map, hie]
          rfl
        · rw [if_neg hj, if_neg hj]
    have hrun := run_update_old (P := Try.prog) (w := w) (v := .pointer (some ⟨be, 0, none⟩)) Try.underlying62 Try.underlying24 hM.map hf he rfl
    rw [hes] at hrun
    have hO := set_only (w := w) (r := r) (o' := .map (esOf (L.set i s')) c) hlt
    have mem : ∀ t ∈ L.set i s', t = s' ∨ (t ∈ L ∧ t.k ≠ s.k) := by
      intro t ht
      obtain ⟨j, hj, hjt⟩ := List.getElem_of_mem ht
      rw [List.getElem_set] at hjt
      split at hjt
      · exact .inl hjt.symm
      · rename_i hne
        rw [List.length_set] at hj
        refine .inr ⟨hjt ▸ List.getElem_mem _, fun e => hne ?_⟩
        have hnd := hM.keys
        have hp := List.pairwise_iff_getElem.1 hnd
        rcases Nat.lt_trichotomy i j with h | h | h
        · exact (hp i j (by simpa using hil) (by simpa using hj) h (by simp [hie, hjt, e])).elim
        · exact h
        · exact (hp j i (by simpa using hj) (by simpa using hil) h (by simp [hie, hjt, e])).elim
    have hkeys : (L.set i s').map Slot.k = L.map Slot.k := by
      rw [List.map_set]
      apply List.ext_getElem
      · simp
      · intro j h3 h4
        rw [List.getElem_set]
        split
        · rename_i hj; subst hj; simp [s', hie]
        · rfl
    have hborns : (L.set i s').map Slot.born = L.map Slot.born := by
      rw [List.map_set]
      apply List.ext_getElem
      · simp
      · intro j h3 h4
        rw [List.getElem_set]
        split
        · rename_i hj; subst hj; simp [s', hie]
        · rfl
    refine ⟨_, L.set i s', c, fun g => g = r ∨ ∃ s ∈ L.set i s', g = s.b ∨ inA s.A g, hrun, hO, ⟨set_map hlt, ?_, ?_, by rw [hkeys]; exact hM.keys, by rw [hborns]; exact hM.borns, ?_, fun g => Iff.rfl, ?_⟩, ?_⟩
    · intro t ht
      rw [List.length_set]
      rcases mem t ht with rfl | ⟨h, _⟩
      · exact hM.lt_ s hs
      · exact hM.lt_ t h
    · intro t ht
      rcases mem t ht with rfl | ⟨h, hne⟩
      · have : entOf (E.set s.k d) s'.k = d := by rw [entOf_set hn]; exact if_pos rfl
        rw [this]
        exact ⟨hB.only hO h1, hQ.only hO fun g hg (e : g = r) => h2 (e ▸ hg)⟩
      · rw [entOf_set hn, if_neg hne]
        exact (hM.at_ t h).only hO (hM.ap t h).1 fun g hg (e : g = r) => (hM.ap t h).2 (e ▸ hg)
    · intro k hk
      rw [hkeys] at hk
      rw [entOf_set hn, if_neg (fun e : k = s.k => hk (e ▸ List.mem_map.2 ⟨s, hs, rfl⟩))]
      exact hM.no k hk
    · intro t ht
      rcases mem t ht with rfl | ⟨h, _⟩
      · exact ⟨h1, h2⟩
      · exact hM.ap t h
    · rintro g (rfl | ⟨t, ht, hg⟩)
      · exact .inl ((hM.foot _).2 (.inl rfl))
      · rcases mem t ht with rfl | ⟨h, _⟩
        · exact .inr hg
        · exact .inl ((hM.foot _).2 (.inr ⟨t, h, hg⟩))
  · have hf := find_no (k := n) L 0 hk
    have hrun := run_update_new (P := Try.prog) (w := w) (v := .pointer (some ⟨be, 0, none⟩)) Try.underlying62 Try.underlying24 hM.map hf
    let s' : Slot := ⟨n, be, A, qc, c⟩
    have hes : (esOf L).push ⟨.int .u32 ((n : Nat) : Int), .pointer (some ⟨be, 0, none⟩), c⟩ = esOf (L ++ [s']) := by simp [esOf, s', Slot.me]
    rw [hes] at hrun
    have hO := set_only (w := w) (r := r) (o' := .map (esOf (L ++ [s'])) (c + 1)) hlt
    have mem : ∀ t ∈ L ++ [s'], t ∈ L ∨ t = s' := by simp
    refine ⟨_, L ++ [s'], c + 1, fun g => g = r ∨ ∃ s ∈ L ++ [s'], g = s.b ∨ inA s.A g, hrun, hO, ⟨set_map hlt, ?_, ?_, ?_, ?_, ?_, fun g => Iff.rfl, ?_⟩, ?_⟩
    · intro t ht
      rw [List.length_set]
      rcases mem t ht with h | rfl
      · have := hM.lt_ t h; omega
      · exact ⟨hn, Nat.lt_succ_self _⟩
    · intro t ht
      rcases mem t ht with h | rfl
      · rw [entOf_set hn, if_neg (fun e : t.k = n => hk (e ▸ List.mem_map.2 ⟨t, h, rfl⟩))]
        exact (hM.at_ t h).only hO (hM.ap t h).1 fun g hg (e : g = r) => (hM.ap t h).2 (e ▸ hg)
      · have : entOf (E.set n d) s'.k = d := by rw [entOf_set hn]; exact if_pos rfl
        rw [this]
        exact ⟨hB.only hO h1, hQ.only hO fun g hg (e : g = r) => h2 (e ▸ hg)⟩
    · rw [List.map_append, List.nodup_append]
      refine ⟨hM.keys, by simp, ?_⟩
      intro x hx y hy e
      simp [s'] at hy
      subst hy
      exact hk (e ▸ hx)
    · rw [List.map_append, List.nodup_append]
      refine ⟨hM.borns, by simp, ?_⟩
      intro x hx y hy e
      simp [s'] at hy
      subst hy
      obtain ⟨t, ht, hb⟩ := List.mem_map.1 hx
      have := (hM.lt_ t ht).2
      omega
    · intro k hk2
      rw [List.map_append, List.mem_append, not_or] at hk2
      rw [entOf_set hn, if_neg (fun e => hk2.2 (by simp [s', e]))]
      exact hM.no k hk2.1
    · intro t ht
      rcases mem t ht with h | rfl
      · exact hM.ap t h
      · exact ⟨h1, h2⟩
    · rintro g (rfl | ⟨t, ht, hg⟩)
      · exact .inl ((hM.foot _).2 (.inl rfl))
      · rcases mem t ht with h | rfl
        · exact .inl ((hM.foot _).2 (.inr ⟨t, h, hg⟩))
        · exact .inr hg
theorem fx_entPut {n be qc : Nat} {A : Option Addr} {d : Ent} {x y z : Operand} (hw : Region.wanted o (yielded ops a.tmps) = true) (ho : o.op = .mapUpdate 62 x y z) (hd : o.dst = none) (hx : a.eval x = .map (some r)) (hy : a.eval y = .int .u32 ((n : Nat) : Int)) (hz : a.eval z = .pointer (some ⟨be, 0, none⟩))
    (hM : EntsAt w F r E L c) (hn : n < E.length) (hB : Blk w be 42 (entA d (.slice A d.q.length qc))) (hQ : View msgE w A qc d.q) (h1 : ¬ be = r) (h2 : ¬ inA A r)
    (next : ∀ w1 L' c' F', Only (fun j => j = r) w w1 → EntsAt w1 F' r (E.set n d) L' c' → (∀ g, F' g → F g ∨ g = be ∨ inA A g) → wpList Try.prog ops Q rest a w1) : wpList Try.prog ops Q (o :: rest) a w := by
  obtain ⟨w1, L', c', F', hr, hO, hE, hF⟩ := ents_put hM hn hB hQ h1 h2
  refine fx_eff (w1 := w1) hw hd ?_ (next w1 L' c' F' hO hE hF)
  simp [execOp, ho, hx, hy, hz, hr, Result.andThen]
end
structure HSep (Fp : Nat → Prop) (b bi ig : Nat) (F : Nat → Prop) : Prop where
  ne_b_bi : NE b bi
  ne_b_ig : NE b ig
  fb : ¬ F b
  fbi : ¬ F bi
  fig : ¬ F ig
  foot : ∀ g, Fp g ↔ g = b ∨ g = bi ∨ g = ig ∨ F g
def HomeAt (w : World) (Fp : Nat → Prop) (b : Nat) (h : HD) : Prop :=
  ∃ bi ig cap r F L c, Blk w b 64 #[.pointer (some ⟨bi, 0, none⟩), .map (some r)] ∧ Img 0 w bi ig cap h.bs ∧ EntsAt w F r h.E L c ∧ HSep Fp b bi ig F ∧ h.E.length = h.bs.length / 16
section
variable {w w' : World} {Fp T : Nat → Prop} {b : Nat} {h : HD}
theorem HomeAt.only (H : HomeAt w Fp b h) (k : Only T w w') (hs : ∀ g, Fp g → ¬ T g) : HomeAt w' Fp b h := by
  obtain ⟨bi, ig, cap, r, F, L, c, hB, hI, hM, hS, hn⟩ := H
  exact ⟨bi, ig, cap, r, F, L, c, hB.only k (hs _ ((hS.foot _).2 (.inl rfl))), hI.only k (hs _ ((hS.foot _).2 (.inr (.inl rfl)))) (hs _ ((hS.foot _).2 (.inr (.inr (.inl rfl))))), hM.only k fun g hg => hs _ ((hS.foot _).2 (.inr (.inr (.inr hg)))), hS, hn⟩
theorem HomeAt.new (H : HomeAt w Fp b h) (k : New w w') : HomeAt w' Fp b h := H.only k fun _ _ => id
theorem HomeAt.lt (H : HomeAt w Fp b h) {g : Nat} (hg : Fp g) : g < w.heap.size := by
  obtain ⟨bi, ig, cap, r, F, L, c, hB, hI, hM, hS, hn⟩ := H
  rcases (hS.foot g).1 hg with rfl | rfl | rfl | hg
  · exact hB.lt
  · exact hI.lt.1
  · exact hI.lt.2
  · exact hM.lt hg
theorem HomeAt.apart (H : HomeAt w Fp b h) {c : Nat} (hc : w.heap.size ≤ c) : ¬ Fp c := fun hi => by have := H.lt hi; omega
theorem HomeAt.has (H : HomeAt w Fp b h) : Fp b := by
  obtain ⟨bi, ig, cap, r, F, L, c, hB, hI, hM, hS, hn⟩ := H
  exact (hS.foot b).2 (.inl rfl)
theorem HomeAt.len (H : HomeAt w Fp b h) : h.E.length = h.bs.length / 16 ∧ 16 ≤ h.bs.length ∧ h.bs.length ≤ 4096 := by
  obtain ⟨bi, ig, cap, r, F, L, c, hB, hI, hM, hS, hn⟩ := H
  exact ⟨hn, hI.pos⟩
end
def TakeH (w : World) (Fp : Nat → Prop) (b : Nat) (x : HD × List Msg × Int) (v : Value) (w' : World) : Prop :=
  ∃ A ac Fp', v = .tuple #[.slice A x.2.1.length ac, .int .i64 x.2.2] ∧ Own msgE w' A ac x.2.1 ∧ (∀ g, inA A g → w.heap.size ≤ g) ∧ HomeAt w' Fp' b x.1 ∧ (∀ g, Fp' g → inA A g → False) ∧ (∀ g, Fp' g → Fp g ∨ w.heap.size ≤ g) ∧ Only Fp w w'
theorem takeH_no {w w' : World} {Fp : Nat → Prop} {b : Nat} {x : HD × List Msg × Int} {h : HD} {v : Value} (e : Int) (hx : x = (h, [], e)) (hv : v = .tuple #[.slice none 0 0, .int .i64 e]) (H : HomeAt w' Fp b h) (hn : New w w') : TakeH w Fp b x v w' := by
  subst hx hv
  exact ⟨none, 0, Fp, rfl, Own.nil, fun g hg => absurd hg (apart_none g), H, fun g _ hg => apart_none g hg, fun g hg => .inl hg, hn.mono fun _ _ h => h.elim⟩
end Go.Proofs.Ytdiaemlgghfecaa
namespace Go.Proofs.Ytdiaemlgghfecaa
open Go.RowKit
set_option maxRecDepth 100000 in
set_option maxHeartbeats 4000000 in
theorem hnone_c {w : World} {b bi r : Nat} (hB : Blk w b 64 #[.pointer (some ⟨bi, 0, none⟩), .map (some r)])  : Calls Try.prog 27 #[.pointer (some ⟨b, 0, none⟩)] w (Ret fun v w' => v = .bool false ∧ w' = w) := by
  refine fx_enter Try.func27 rfl (N := (12, [])) (T := [(0, .pointer (some ⟨b, 0, none⟩))]) rfl (show 1 ≤ 12 by decide) ⟨rfl, trivial⟩ fun a fr => ?_
  refine wp_seq ?_
  refine wp_region_lit ?_  -- region 0
  refine fx_val (v := .bool false) fr rfl rfl (by first | decide | simp) (x_assign rfl rfl) ?_
  clear fr a; intro a fr
  refine wpList_nil ?_
  refine fx_next ?_
  refine wp_seq ?_
  refine wp_region_lit ?_  -- region 1
  refine fx_val (v := .pointer (some ⟨b, 0, none⟩)) fr rfl rfl (by first | decide | simp) (x_move rfl (fr.ev rfl)) ?_
  clear fr a; intro a fr
  refine fx_val (v := .bool false) fr rfl rfl (by first | decide | simp) (x_peql Try.underlying25 rfl (fr.ev rfl) rfl rfl) ?_
  clear fr a; intro a fr
  refine fx_val (v := .bool false) fr rfl rfl (by first | decide | simp) (x_move rfl (fr.ev rfl)) ?_
  clear fr a; intro a fr
  refine fx_val (v := .pointer (some ⟨b, 0, none⟩)) fr (fr.want rfl rfl rfl) rfl (by first | decide | simp) (x_move rfl (fr.ev rfl)) ?_
  clear fr a; intro a fr
  refine fx_val (v := .pointer (some ⟨b, 0, none⟩)) fr (fr.want rfl rfl rfl) rfl (by first | decide | simp) (x_nilCheck rfl (fr.ev rfl)) ?_
  clear fr a; intro a fr
  refine fx_val (v := .pointer (some ⟨b, 0, none⟩)) fr (fr.want rfl rfl rfl) rfl (by first | decide | simp) (x_fieldAddr fo64_0 rfl (fr.ev rfl) rfl) ?_
  clear fr a; intro a fr
  refine fx_val (v := .pointer (some ⟨bi, 0, none⟩)) fr (fr.want rfl rfl rfl) rfl (by first | decide | simp) (x_load1 pl61 rfl (fr.ev rfl) (hB.cell 0 rfl)) ?_
  clear fr a; intro a fr
  refine fx_val (v := .bool false) fr (fr.want rfl rfl rfl) rfl (by first | decide | simp) (x_peql Try.underlying61 rfl (fr.ev rfl) rfl rfl) ?_
  clear fr a; intro a fr
  refine fx_val (v := .bool false) fr rfl rfl (by first | decide | simp) (x_pick_f rfl (fr.ev rfl) (fr.ev rfl)) ?_
  clear fr a; intro a fr
  refine fx_val (v := .bool false) fr rfl rfl (by first | decide | simp) (x_assign rfl (fr.ev rfl)) ?_
  clear fr a; intro a fr
  refine wpList_nil ?_
  refine fx_next ?_
  refine wp_ret ?_
  refine fx_ret fr [.tmp 2] [.bool false] rfl ⟨rfl, trivial⟩ rfl ?_
  exact ⟨_, rfl, rfl, rfl⟩
set_option maxRecDepth 100000 in
set_option maxHeartbeats 4000000 in
theorem lines_r {w : World} {b bi r : Nat} (hB : Blk w b 64 #[.pointer (some ⟨bi, 0, none⟩), .map (some r)]) {ig cap : Nat} {bs : List UInt8} (hI : Img 0 w bi ig cap bs)  : Calls Try.prog 10 #[.pointer (some ⟨b, 0, none⟩)] w (Ret fun v w' => v = .int .i64 ((bs.length / 16 : Nat) : Int) ∧ w' = w) := by
  have hp := hI.pos
  refine fx_enter Try.func10 rfl (N := (11, [])) (T := [(0, .pointer (some ⟨b, 0, none⟩))]) rfl (show 1 ≤ 11 by decide) ⟨rfl, trivial⟩ fun a fr => ?_
  refine wp_seq ?_
  refine wp_region_lit ?_  -- region 0
  refine fx_val (v := .int .i64 0) fr rfl rfl (by first | decide | simp) (x_assign rfl rfl) ?_
  clear fr a; intro a fr
  refine wpList_nil ?_
  refine fx_next ?_
  refine wp_seq ?_
  refine wp_seq ?_
  refine wp_region_lit ?_  -- region 1
  refine fx_val (v := .pointer (some ⟨b, 0, none⟩)) fr rfl rfl (by first | decide | simp) (x_move rfl (fr.ev rfl)) ?_
  clear fr a; intro a fr
  refine fx_call fr rfl rfl (by first | decide | simp) (x_call (vs := [.pointer (some ⟨b, 0, none⟩)]) rfl rfl ⟨(fr.ev rfl), trivial⟩ Try.func27 nm27 rfl) (hnone_c hB) ?_
  clear fr a
  rintro v w9 ⟨rfl, hw9⟩ a fr
  obtain rfl := hw9.symm
  refine wpList_nil ?_
  refine fx_next ?_
  refine fx_cond_f fr rfl ?_
  refine wp_skip ?_
  refine fx_next ?_
  refine wp_seq ?_
  refine wp_region_lit ?_  -- region 3
  refine fx_val (v := .pointer (some ⟨b, 0, none⟩)) fr rfl rfl (by first | decide | simp) (x_move rfl (fr.ev rfl)) ?_
  clear fr a; intro a fr
  refine fx_val (v := .pointer (some ⟨b, 0, none⟩)) fr rfl rfl (by first | decide | simp) (x_nilCheck rfl (fr.ev rfl)) ?_
  clear fr a; intro a fr
  refine fx_val (v := .pointer (some ⟨b, 0, none⟩)) fr rfl rfl (by first | decide | simp) (x_fieldAddr fo64_0 rfl (fr.ev rfl) rfl) ?_
  clear fr a; intro a fr
  refine fx_val (v := .pointer (some ⟨bi, 0, none⟩)) fr rfl rfl (by first | decide | simp) (x_load1 pl61 rfl (fr.ev rfl) (hB.cell 0 rfl)) ?_
  clear fr a; intro a fr
  refine fx_call fr rfl rfl (by first | decide | simp) (x_call (vs := [.pointer (some ⟨bi, 0, none⟩)]) rfl rfl ⟨(fr.ev rfl), trivial⟩ Try.func28 nm28 rfl) (hsize_c hI) ?_
  clear fr a
  rintro v w9 ⟨rfl, hw9⟩ a fr
  obtain rfl := hw9.symm
  refine fx_val (v := .int .i64 ((bs.length / 16 : Nat) : Int)) fr rfl rfl (by first | decide | simp) (x_quo rfl (fr.ev rfl) rfl (by decide) (quo_nat _ _ (by omega))) ?_
  clear fr a; intro a fr
  refine fx_val (v := .int .i64 ((bs.length / 16 : Nat) : Int)) fr rfl rfl (by first | decide | simp) (x_assign rfl (fr.ev rfl)) ?_
  clear fr a; intro a fr
  refine wpList_nil ?_
  refine fx_next ?_
  refine wp_ret ?_
  refine fx_ret fr [.tmp 2] [.int .i64 ((bs.length / 16 : Nat) : Int)] rfl ⟨rfl, trivial⟩ rfl ?_
  exact ⟨_, rfl, rfl, rfl⟩
set_option maxRecDepth 100000 in
set_option maxHeartbeats 4000000 in
theorem clonem_nil (w : World) : Calls Try.prog 56 #[.slice none 0 0] w (Ret fun v w' => v = .slice none 0 0 ∧ w' = w) := by
  refine fx_enter Try.func56 rfl (N := (8, [])) (T := [(0, .slice none 0 0)]) rfl (show 1 ≤ 8 by decide) ⟨rfl, trivial⟩ fun a fr => ?_
  refine wp_seq ?_
  refine wp_region_lit ?_  -- region 0
  refine fx_val (v := .slice none 0 0) fr rfl rfl (by first | decide | simp) (x_assign rfl rfl) ?_
  clear fr a; intro a fr
  refine wpList_nil ?_
  refine fx_next ?_
  refine wp_seq ?_
  refine wp_seq ?_
  refine wp_region_lit ?_  -- region 1
  refine fx_val (v := .slice none 0 0) fr rfl rfl (by first | decide | simp) (x_move rfl (fr.ev rfl)) ?_
  clear fr a; intro a fr
  refine fx_val (v := .bool true) fr rfl rfl (by first | decide | simp) (x_seql Try.underlying23 rfl (fr.ev rfl) rfl rfl) ?_
  clear fr a; intro a fr
  refine wpList_nil ?_
  refine fx_next ?_
  refine fx_cond_t fr rfl ?_
  refine wp_seq ?_
  refine wp_region_lit ?_  -- region 2
  refine fx_val (v := .slice none 0 0) fr rfl rfl (by first | decide | simp) (x_assign rfl rfl) ?_
  clear fr a; intro a fr
  refine wpList_nil ?_
  refine fx_next ?_
  refine wp_ret ?_
  refine fx_rt ?_
  refine fx_ret fr [.tmp 2] [.slice none 0 0] rfl ⟨rfl, trivial⟩ rfl ?_
  exact ⟨_, rfl, rfl, rfl⟩
set_option maxRecDepth 100000 in
set_option maxHeartbeats 4000000 in
theorem clonem_some {w : World} {A : Option Addr} {cap : Nat} {l : List Msg} (hV : View msgE w A cap l) {ad : Addr} (hA : A = some ad) (hl : l.length ≤ 1000000) : Calls Try.prog 56 #[.slice A l.length cap] w (Ret fun v w' => ∃ A' cap', v = .slice A' (l).length cap' ∧ Own msgE w' A' cap' (l) ∧ (∀ g, inA A' g → w.heap.size ≤ g) ∧ New w w') := by
  have hVl := hV.len
  unfold maxLen at hVl
  have hF := Only.refl (fun _ => False) w
  refine fx_enter Try.func56 rfl (N := (8, [])) (T := [(0, .slice A l.length cap)]) rfl (show 1 ≤ 8 by decide) ⟨rfl, trivial⟩ fun a fr => ?_
  refine wp_seq ?_
  refine wp_region_lit ?_  -- region 0
  refine fx_val (v := .slice none 0 0) fr rfl rfl (by first | decide | simp) (x_assign rfl rfl) ?_
  clear fr a; intro a fr
  refine wpList_nil ?_
  refine fx_next ?_
  refine wp_seq ?_
  refine wp_seq ?_
  refine wp_region_lit ?_  -- region 1
  refine fx_val (v := .slice A l.length cap) fr rfl rfl (by first | decide | simp) (x_move rfl (fr.ev rfl)) ?_
  clear fr a; intro a fr
  refine fx_val (v := .bool false) fr rfl rfl (by first | decide | simp) (x_seql Try.underlying23 rfl (fr.ev rfl) rfl (by rw [hA]; rfl)) ?_
  clear fr a; intro a fr
  refine wpList_nil ?_
  refine fx_next ?_
  refine fx_cond_f fr rfl ?_
  refine wp_skip ?_
  refine fx_next ?_
  refine wp_seq ?_
  refine wp_region_lit ?_  -- region 3
  refine fx_build0 (E := msgE) elMsg fr rfl rfl (by decide) rfl ?_
  clear fr a
  intro A1 w2 hN3 O4 hA5 a fr
  have ap2_A_A1 : Apart2 A A1 := (new_apart2 hA5 fun _ hg => hV.lt hg).symm
  have gA_A1 := gA_new hF hA5
  replace hV := hV.new hN3
  replace hF := hF.trNew hN3
  refine fx_val (v := .slice A l.length cap) fr rfl rfl (by first | decide | simp) (x_move rfl (fr.ev rfl)) ?_
  clear fr a; intro a fr
  refine fx_append (E := msgE) (l := []) (l' := l) elMsg fr rfl rfl (by decide) rfl (fr.ev rfl) (fr.ev rfl) (by first | rfl | (simp; done) | (simp; omega)) (by first | rfl | (simp; done) | (simp; omega)) O4 hV (by first | omega | (simp; omega)) (by first | (unfold maxLen; done) | (unfold maxLen; first | omega | (simp only [List.length_append, List.length_cons, List.length_nil]; omega) | (simp; done) | (simp; omega))) ?_
  clear fr a
  intro A6 cap7 w8 O9 hO10 mv11 a fr
  have ap2_A6_A : Apart2 A6 A := moved_apart2 mv11 ap2_A_A1.symm fun _ hg => hV.lt hg
  have gA_A6 := gA_moved hF mv11 gA_A1
  replace hV := hV.only hO10 (fun g h1 h2 => ap2_A_A1 g h1 h2)
  replace hF := hF.locA hO10 gA_A1
  clear O4
  refine fx_val (v := .slice A6 ((([]) ++ l).length) cap7) fr rfl rfl (by first | decide | simp) (x_assign rfl (fr.ev rfl)) ?_
  clear fr a; intro a fr
  refine wpList_nil ?_
  refine fx_next ?_
  refine wp_ret ?_
  refine fx_ret fr [.tmp 2] [.slice A6 ((([]) ++ l).length) cap7] rfl ⟨rfl, trivial⟩ rfl ?_
  exact ⟨_, rfl, _, _, rfl, O9, fun g hg => (gA_A6 g hg).resolve_left (fun h => h), hF⟩
theorem clonem_c {w : World} {A : Option Addr} {cap : Nat} {l : List Msg} (hV : View msgE w A cap l) (hl : l.length ≤ 1000000) : Calls Try.prog 56 #[.slice A l.length cap] w (Ret fun v w' => ∃ A' cap', v = .slice A' (l).length cap' ∧ Own msgE w' A' cap' (l) ∧ (∀ g, inA A' g → w.heap.size ≤ g) ∧ New w w') := by
  cases hA : A with
  | none =>
    subst hA
    obtain ⟨rfl, rfl⟩ := hV.none_
    refine (clonem_nil w).mono ?_
    rintro e w' ⟨v, rfl, rfl, rfl⟩
    exact ⟨_, rfl, none, 0, rfl, Own.nil, fun g hg => absurd hg (apart_none g), Only.refl _ _⟩
  | some ad =>
    subst hA
    exact clonem_some hV rfl hl
set_option maxRecDepth 100000 in
set_option maxHeartbeats 4000000 in
theorem copied_c {w : World} {Q : Option Addr} {qc : Nat} {d : Ent} (hQ : View msgE w Q qc d.q) (hl : d.q.length ≤ 1000000) : Calls Try.prog 38 #[.agg (entA d (.slice Q d.q.length qc))] w (Ret fun v w' => ∃ Q' qc', v = .agg (entA d (.slice Q' d.q.length qc')) ∧ Own msgE w' Q' qc' d.q ∧ (∀ g, inA Q' g → w.heap.size ≤ g) ∧ New w w') := by
  have hF := Only.refl (fun _ => False) w
  refine fx_enter Try.func38 rfl (N := (8, [])) (T := [(0, .agg (entA d (.slice Q d.q.length qc)))]) rfl (show 1 ≤ 8 by decide) ⟨rfl, trivial⟩ fun a fr => ?_
  refine wp_seq ?_
  refine wp_region_lit ?_  -- region 0
  refine fx_new fr rfl rfl (by first | decide | simp) (x_box (cs := entA d (.slice Q d.q.length qc)) rfl (fr.ev rfl) rfl) ?_
  clear fr a
  intro b1 w2 hN3 B4 hb5 a fr
  have ap_Q_b1 : Apart Q b1 := hQ.apart hb5
  have g_b1 := Nat.le_trans hF.size hb5
  replace hQ := hQ.new hN3
  replace hF := hF.trNew hN3
  refine fx_new fr rfl rfl (by first | decide | simp) (x_alloc (z := .agg (#[.int .i64 0, .bool false, .bool false, .bool false, .bool false, .bool false, .int .i64 0, .int .i64 0, .int .i64 0, .bool false, .slice none 0 0])) (cs := #[.int .i64 0, .bool false, .bool false, .bool false, .bool false, .bool false, .int .i64 0, .int .i64 0, .int .i64 0, .bool false, .slice none 0 0]) rfl (by kernel_rfl) rfl) ?_
  clear fr a
  intro b6 w7 hN8 B9 hb10 a fr
  have ap_Q_b6 : Apart Q b6 := hQ.apart hb10
  have ne_b1_b6 : NE b1 b6 := NE.mk (Nat.lt_of_lt_of_le B4.lt hb10)
  have g_b6 := Nat.le_trans hF.size hb10
  replace hQ := hQ.new hN8
  replace B4 := B4.new hN8
  replace hF := hF.trNew hN8
  refine wpList_nil ?_
  refine fx_next ?_
  refine wp_seq ?_
  refine wp_region_lit ?_  -- region 1
  refine fx_val (v := .pointer (some ⟨b1, 10, none⟩)) fr rfl rfl (by first | decide | simp) (x_fieldAddr fo42_7 rfl (fr.ev rfl) rfl) ?_
  clear fr a; intro a fr
  refine fx_val (v := .slice Q d.q.length qc) fr rfl rfl (by first | decide | simp) (x_load1 pl23 rfl (fr.ev rfl) (B4.cell 10 rfl)) ?_
  clear fr a; intro a fr
  refine fx_call fr rfl rfl (by first | decide | simp) (x_call (vs := [.slice Q d.q.length qc]) rfl rfl ⟨(fr.ev rfl), trivial⟩ Try.func56 nm56 rfl) (clonem_c hQ (by omega)) ?_
  clear fr a
  rintro v w15 ⟨A11, cap12, rfl, O13, hA14, hN16⟩ a fr
  have ap2_Q_A11 : Apart2 Q A11 := (new_apart2 hA14 fun _ hg => hQ.lt hg).symm
  have ap_A11_b1 : Apart A11 b1 := new_apart hA14 B4.lt
  have ap_A11_b6 : Apart A11 b6 := new_apart hA14 B9.lt
  have gA_A11 := gA_new hF hA14
  have gN_A11 := fun g (hg : inA A11 g) => Nat.le_trans hF.size (hA14 g hg)
  replace hQ := hQ.new hN16
  replace B4 := B4.new hN16
  replace B9 := B9.new hN16
  replace hF := hF.trNew hN16
  refine fx_val (v := .pointer (some ⟨b1, 10, none⟩)) fr rfl rfl (by first | decide | simp) (x_fieldAddr fo42_7 rfl (fr.ev rfl) rfl) ?_
  clear fr a; intro a fr
  refine fx_store1 sz23 rfl rfl rfl (fr.ev rfl) (fr.ev rfl) rfl B4 (show 10 < 11 by decide) (cs' := entA ({ d with q := d.q }) (.slice A11 d.q.length cap12)) rfl fun w17 hO18 hBq => ?_
  replace hQ := hQ.only hO18 (Apart.ne1 ap_Q_b1)
  replace B9 := B9.only hO18 (by first | exact ne_b6_b1 | exact ne_b1_b6.symm | (show ¬ b6 = b1; omega))
  replace O13 := O13.only hO18 (Apart.ne1 ap_A11_b1)
  replace hF := hF.loc hO18 (.inr g_b1)
  replace B4 := hBq
  clear hBq
  refine wpList_nil ?_
  refine fx_next ?_
  refine wp_seq ?_
  refine wp_region_lit ?_  -- region 2
  refine fx_val (v := .agg (entA ({ d with q := d.q }) (.slice A11 d.q.length cap12))) fr rfl rfl (by first | decide | simp) (x_loadS ag42 rfl (fr.ev rfl) rfl B4.range) ?_
  clear fr a; intro a fr
  refine fx_storeS sz42 rfl rfl rfl (fr.ev rfl) (fr.ev rfl) (ent_all _ _ _ _) B9 rfl rfl fun w19 hO20 hBq => ?_
  replace hQ := hQ.only hO20 (Apart.ne1 ap_Q_b6)
  replace O13 := O13.only hO20 (Apart.ne1 ap_A11_b6)
  replace B4 := B4.only hO20 (by first | exact ne_b1_b6 | exact ne_b6_b1.symm | (show ¬ b1 = b6; omega))
  replace hF := hF.loc hO20 (.inr g_b6)
  replace B9 := hBq
  clear hBq
  refine wpList_nil ?_
  refine fx_next ?_
  refine wp_ret ?_
  refine fx_ret fr [.cell 2 42] [.agg (entA ({ d with q := d.q }) (.slice A11 d.q.length cap12))] rfl ⟨⟨_, rfl, x_loadV ag42 rfl B9.range⟩, trivial⟩ rfl ?_
  exact ⟨_, rfl, A11, cap12, rfl, O13, gN_A11, hF⟩
set_option maxRecDepth 100000 in
set_option maxHeartbeats 4000000 in
theorem of_1 {w : World} {b bi r : Nat} (hB : Blk w b 64 #[.pointer (some ⟨bi, 0, none⟩), .map (some r)]) {L : List Slot} {c : Nat} {line : Int} (hMB : MapBlk w r (esOf L) c) {sb : Nat} (hf : (Instr.findNow (.int .u32) (.int .u32 line) (esOf L).toList 0).map (fun q => (match q with | some (_, u) => u | none => .pointer none, q.isSome)) = some (.pointer (some ⟨sb, 0, none⟩), true)) {d : Ent} {Q : Option Addr} {qc : Nat} (hE : Blk w sb 42 (entA d (.slice Q d.q.length qc))) (hQ : View msgE w Q qc d.q) (hl : d.q.length ≤ 1000000) : Calls Try.prog 31 #[.pointer (some ⟨b, 0, none⟩), .int .u32 line] w (Ret fun v w' => ∃ Q' qc', v = .agg (entA d (.slice Q' d.q.length qc')) ∧ Own msgE w' Q' qc' d.q ∧ (∀ g, inA Q' g → w.heap.size ≤ g) ∧ New w w') := by
  have hF := Only.refl (fun _ => False) w
  refine fx_enter Try.func31 rfl (N := (19, [])) (T := [(0, .pointer (some ⟨b, 0, none⟩)), (1, .int .u32 line)]) rfl (show 2 ≤ 19 by decide) ⟨rfl, rfl, trivial⟩ fun a fr => ?_
  refine wp_seq ?_
  refine wp_region_lit ?_  -- region 0
  refine fx_new fr rfl rfl (by first | decide | simp) (x_alloc (z := .agg (#[.int .i64 0, .bool false, .bool false, .bool false, .bool false, .bool false, .int .i64 0, .int .i64 0, .int .i64 0, .bool false, .slice none 0 0])) (cs := #[.int .i64 0, .bool false, .bool false, .bool false, .bool false, .bool false, .int .i64 0, .int .i64 0, .int .i64 0, .bool false, .slice none 0 0]) rfl (by kernel_rfl) rfl) ?_
  clear fr a
  intro b1 w2 hN3 B4 hb5 a fr
  have ne_b_b1 : NE b b1 := NE.mk (Nat.lt_of_lt_of_le hB.lt hb5)
  have ne_r_b1 : NE r b1 := NE.mk (Nat.lt_of_lt_of_le hMB.lt hb5)
  have ne_sb_b1 : NE sb b1 := NE.mk (Nat.lt_of_lt_of_le hE.lt hb5)
  have ap_Q_b1 : Apart Q b1 := hQ.apart hb5
  have g_b1 := Nat.le_trans hF.size hb5
  replace hB := hB.new hN3
  replace hMB := hMB.new hN3
  replace hE := hE.new hN3
  replace hQ := hQ.new hN3
  replace hF := hF.trNew hN3
  refine wpList_nil ?_
  refine fx_next ?_
  refine wp_seq ?_
  refine wp_seq ?_
  refine wp_region_lit ?_  -- region 1
  refine fx_val (v := .pointer (some ⟨b, 0, none⟩)) fr rfl rfl (by first | decide | simp) (x_move rfl (fr.ev rfl)) ?_
  clear fr a; intro a fr
  refine fx_val (v := .pointer (some ⟨b, 0, none⟩)) fr rfl rfl (by first | decide | simp) (x_nilCheck rfl (fr.ev rfl)) ?_
  clear fr a; intro a fr
  refine fx_val (v := .pointer (some ⟨b, 1, none⟩)) fr rfl rfl (by first | decide | simp) (x_fieldAddr fo64_1 rfl (fr.ev rfl) rfl) ?_
  clear fr a; intro a fr
  refine fx_val (v := .map (some r)) fr rfl rfl (by first | decide | simp) (x_load1 pl62 rfl (fr.ev rfl) (hB.cell 1 rfl)) ?_
  clear fr a; intro a fr
  refine fx_val (v := .int .u32 line) fr rfl rfl (by first | decide | simp) (x_move rfl (fr.ev rfl)) ?_
  clear fr a; intro a fr
  refine fx_val (v := .pointer (some ⟨sb, 0, none⟩)) fr rfl rfl (by first | decide | simp) (x_lookup (k := .u32) (ok := false) (v := .pointer (some ⟨sb, 0, none⟩)) (b := true) Try.underlying62 Try.underlying24 rfl (fr.ev rfl) (fr.ev rfl) hMB (z := .pointer none) (by kernel_rfl) hf) ?_
  clear fr a; intro a fr
  refine fx_val (v := .pointer (some ⟨sb, 0, none⟩)) fr rfl rfl (by first | decide | simp) (x_assign rfl (fr.ev rfl)) ?_
  clear fr a; intro a fr
  refine wpList_nil ?_
  refine fx_next ?_
  refine wp_seq ?_
  refine wp_region_lit ?_  -- region 2
  refine fx_val (v := .pointer (some ⟨sb, 0, none⟩)) fr rfl rfl (by first | decide | simp) (x_move rfl (fr.ev rfl)) ?_
  clear fr a; intro a fr
  refine fx_val (v := .bool true) fr rfl rfl (by first | decide | simp) (x_pneq Try.underlying78 rfl (fr.ev rfl) rfl rfl) ?_
  clear fr a; intro a fr
  refine wpList_nil ?_
  refine fx_next ?_
  refine fx_cond_t fr rfl ?_
  refine wp_seq ?_
  refine wp_region_lit ?_  -- region 3
  refine fx_val (v := .pointer (some ⟨sb, 0, none⟩)) fr rfl rfl (by first | decide | simp) (x_move rfl (fr.ev rfl)) ?_
  clear fr a; intro a fr
  refine fx_val (v := .pointer (some ⟨sb, 0, none⟩)) fr rfl rfl (by first | decide | simp) (x_nilCheck rfl (fr.ev rfl)) ?_
  clear fr a; intro a fr
  refine fx_val (v := .agg (entA d (.slice Q d.q.length qc))) fr rfl rfl (by first | decide | simp) (x_loadS ag42 rfl (fr.ev rfl) rfl hE.range) ?_
  clear fr a; intro a fr
  refine fx_call fr rfl rfl (by first | decide | simp) (x_call (vs := [.agg (entA d (.slice Q d.q.length qc))]) rfl rfl ⟨(fr.ev rfl), trivial⟩ Try.func38 nm38 rfl) (copied_c (d := d) hQ (by omega)) ?_
  clear fr a
  rintro v w10 ⟨Q6, qc7, rfl, OQ8, hA9, hN11⟩ a fr
  have ap_Q6_b : Apart Q6 b := new_apart hA9 hB.lt
  have ap_Q6_r : Apart Q6 r := new_apart hA9 hMB.lt
  have ap_Q6_sb : Apart Q6 sb := new_apart hA9 hE.lt
  have ap2_Q_Q6 : Apart2 Q Q6 := (new_apart2 hA9 fun _ hg => hQ.lt hg).symm
  have ap_Q6_b1 : Apart Q6 b1 := new_apart hA9 B4.lt
  have gA_Q6 := gA_new hF hA9
  have gN_Q6 := fun g (hg : inA Q6 g) => Nat.le_trans hF.size (hA9 g hg)
  replace hB := hB.new hN11
  replace hMB := hMB.new hN11
  replace hE := hE.new hN11
  replace hQ := hQ.new hN11
  replace B4 := B4.new hN11
  replace hF := hF.trNew hN11
  refine fx_storeS sz42 rfl rfl rfl (fr.ev rfl) (fr.ev rfl) (ent_all _ _ _ _) B4 rfl rfl fun w12 hO13 hBq => ?_
  replace hB := hB.only hO13 (by first | exact ne_b_b1 | exact ne_b1_b.symm | (show ¬ b = b1; omega))
  replace hMB := hMB.only hO13 (by first | exact ne_r_b1 | exact ne_b1_r.symm | (show ¬ r = b1; omega))
  replace hE := hE.only hO13 (by first | exact ne_sb_b1 | exact ne_b1_sb.symm | (show ¬ sb = b1; omega))
  replace hQ := hQ.only hO13 (Apart.ne1 ap_Q_b1)
  replace OQ8 := OQ8.only hO13 (Apart.ne1 ap_Q6_b1)
  replace hF := hF.loc hO13 (.inr g_b1)
  replace B4 := hBq
  clear hBq
  refine wpList_nil ?_
  refine fx_next ?_
  refine wp_ret ?_
  refine fx_rt ?_
  refine fx_ret fr [.cell 4 42] [.agg (entA d (.slice Q6 d.q.length qc7))] rfl ⟨⟨_, rfl, x_loadV ag42 rfl B4.range⟩, trivial⟩ rfl ?_
  exact ⟨_, rfl, Q6, qc7, rfl, OQ8, gN_Q6, hF⟩
set_option maxRecDepth 100000 in
set_option maxHeartbeats 4000000 in
theorem of_0 {w : World} {b bi r : Nat} (hB : Blk w b 64 #[.pointer (some ⟨bi, 0, none⟩), .map (some r)]) {L : List Slot} {c : Nat} {line : Int} (hMB : MapBlk w r (esOf L) c) (hf : (Instr.findNow (.int .u32) (.int .u32 line) (esOf L).toList 0).map (fun q => (match q with | some (_, u) => u | none => .pointer none, q.isSome)) = some (.pointer none, false))  : Calls Try.prog 31 #[.pointer (some ⟨b, 0, none⟩), .int .u32 line] w (Ret fun v w' => v = .agg (entA ent0 (.slice none 0 0)) ∧ New w w') := by
  have hF := Only.refl (fun _ => False) w
  refine fx_enter Try.func31 rfl (N := (19, [])) (T := [(0, .pointer (some ⟨b, 0, none⟩)), (1, .int .u32 line)]) rfl (show 2 ≤ 19 by decide) ⟨rfl, rfl, trivial⟩ fun a fr => ?_
  refine wp_seq ?_
  refine wp_region_lit ?_  -- region 0
  refine fx_new fr rfl rfl (by first | decide | simp) (x_alloc (z := .agg (#[.int .i64 0, .bool false, .bool false, .bool false, .bool false, .bool false, .int .i64 0, .int .i64 0, .int .i64 0, .bool false, .slice none 0 0])) (cs := #[.int .i64 0, .bool false, .bool false, .bool false, .bool false, .bool false, .int .i64 0, .int .i64 0, .int .i64 0, .bool false, .slice none 0 0]) rfl (by kernel_rfl) rfl) ?_
  clear fr a
  intro b1 w2 hN3 B4 hb5 a fr
  have ne_b_b1 : NE b b1 := NE.mk (Nat.lt_of_lt_of_le hB.lt hb5)
  have ne_r_b1 : NE r b1 := NE.mk (Nat.lt_of_lt_of_le hMB.lt hb5)
  have g_b1 := Nat.le_trans hF.size hb5
  replace hB := hB.new hN3
  replace hMB := hMB.new hN3
  replace hF := hF.trNew hN3
  refine wpList_nil ?_
  refine fx_next ?_
  refine wp_seq ?_
  refine wp_seq ?_
  refine wp_region_lit ?_  -- region 1
  refine fx_val (v := .pointer (some ⟨b, 0, none⟩)) fr rfl rfl (by first | decide | simp) (x_move rfl (fr.ev rfl)) ?_
  clear fr a; intro a fr
  refine fx_val (v := .pointer (some ⟨b, 0, none⟩)) fr rfl rfl (by first | decide | simp) (x_nilCheck rfl (fr.ev rfl)) ?_
  clear fr a; intro a fr
  refine fx_val (v := .pointer (some ⟨b, 1, none⟩)) fr rfl rfl (by first | decide | simp) (x_fieldAddr fo64_1 rfl (fr.ev rfl) rfl) ?_
  clear fr a; intro a fr
  refine fx_val (v := .map (some r)) fr rfl rfl (by first | decide | simp) (x_load1 pl62 rfl (fr.ev rfl) (hB.cell 1 rfl)) ?_
  clear fr a; intro a fr
  refine fx_val (v := .int .u32 line) fr rfl rfl (by first | decide | simp) (x_move rfl (fr.ev rfl)) ?_
  clear fr a; intro a fr
  refine fx_val (v := .pointer none) fr rfl rfl (by first | decide | simp) (x_lookup (k := .u32) (ok := false) (v := .pointer none) (b := false) Try.underlying62 Try.underlying24 rfl (fr.ev rfl) (fr.ev rfl) hMB (z := .pointer none) (by kernel_rfl) hf) ?_
  clear fr a; intro a fr
  refine fx_val (v := .pointer none) fr rfl rfl (by first | decide | simp) (x_assign rfl (fr.ev rfl)) ?_
  clear fr a; intro a fr
  refine wpList_nil ?_
  refine fx_next ?_
  refine wp_seq ?_
  refine wp_region_lit ?_  -- region 2
  refine fx_val (v := .pointer none) fr rfl rfl (by first | decide | simp) (x_move rfl (fr.ev rfl)) ?_
  clear fr a; intro a fr
  refine fx_val (v := .bool false) fr rfl rfl (by first | decide | simp) (x_pneq Try.underlying78 rfl (fr.ev rfl) rfl rfl) ?_
  clear fr a; intro a fr
  refine wpList_nil ?_
  refine fx_next ?_
  refine fx_cond_f fr rfl ?_
  refine wp_skip ?_
  refine fx_next ?_
  refine wp_seq ?_
  refine wp_region_lit ?_  -- region 4
  refine fx_val (v := .agg (#[.int .i64 (-1), .bool false, .bool false, .bool false, .bool false, .bool false, .int .i64 0, .int .i64 0, .int .i64 0, .bool false, .slice none 0 0])) fr rfl rfl (by first | decide | simp) (x_build (cells := #[.int .i64 (-1), .bool false, .bool false, .bool false, .bool false, .bool false, .int .i64 0, .int .i64 0, .int .i64 0, .bool false, .slice none 0 0]) rfl (by kernel_rfl)) ?_
  clear fr a; intro a fr
  refine fx_storeS sz42 rfl rfl rfl (fr.ev rfl) (fr.ev rfl) (by simp [Value.oneCell']) B4 rfl rfl fun w6 hO7 hBq => ?_
  replace hB := hB.only hO7 (by first | exact ne_b_b1 | exact ne_b1_b.symm | (show ¬ b = b1; omega))
  replace hMB := hMB.only hO7 (by first | exact ne_r_b1 | exact ne_b1_r.symm | (show ¬ r = b1; omega))
  replace hF := hF.loc hO7 (.inr g_b1)
  replace B4 := hBq
  clear hBq
  refine wpList_nil ?_
  refine fx_next ?_
  refine wp_ret ?_
  refine fx_ret fr [.cell 4 42] [.agg (#[.int .i64 (-1), .bool false, .bool false, .bool false, .bool false, .bool false, .int .i64 0, .int .i64 0, .int .i64 0, .bool false, .slice none 0 0])] rfl ⟨⟨_, rfl, x_loadV ag42 rfl B4.range⟩, trivial⟩ rfl ?_
  exact ⟨_, rfl, rfl, hF⟩
theorem of_c {w : World} {b bi r : Nat} (hB : Blk w b 64 #[.pointer (some ⟨bi, 0, none⟩), .map (some r)]) {F : Nat → Prop} {E : List Ent} {L : List Slot} {c : Nat} (hM : EntsAt w F r E L c) (line : Int) (h0 : 0 ≤ line) (hl : (entOf E line.toNat).q.length ≤ 1000000) : Calls Try.prog 31 #[.pointer (some ⟨b, 0, none⟩), .int .u32 line] w (Ret fun v w' => ∃ Q' qc', v = .agg (entA (entOf E line.toNat) (.slice Q' (entOf E line.toNat).q.length qc')) ∧ Own msgE w' Q' qc' (entOf E line.toNat).q ∧ (∀ g, inA Q' g → w.heap.size ≤ g) ∧ New w w') := by
  have hn : line = ((line.toNat : Nat) : Int) := (Int.toNat_of_nonneg h0).symm
  by_cases hk : line.toNat ∈ L.map Slot.k
  · obtain ⟨s, hs, hsk⟩ := List.mem_map.1 hk
    have ha := hM.at_ s hs
    have hf := hM.find_some hs
    rw [hsk] at ha
    rw [hsk, ← hn] at hf
    exact of_1 hB hM.map hf ha.blk ha.q hl
  · have hf := EntsAt.find_none (L := L) hk
    rw [← hn] at hf
    refine (of_0 hB hM.map hf).mono ?_
    rintro e w' ⟨v, rfl, rfl, hn⟩
    rw [hM.no _ hk]
    exact ⟨_, rfl, none, 0, rfl, Own.nil, fun g hg => absurd hg (apart_none g), hn⟩
end Go.Proofs.Ytdiaemlgghfecaa
namespace Go.Proofs.Ytdiaemlgghfecaa
open Go.RowKit
set_option maxRecDepth 100000 in
set_option maxHeartbeats 4000000 in
theorem caught_idle (cl ce : Nat) (w : World) : CallsD Try.prog 30 #[.pointer (some ⟨cl, 0, none⟩), .pointer (some ⟨ce, 0, none⟩)] (.returning) w (fun e u' w' => e = .returned (.tuple #[]) ∧ u' = .returning ∧ w' = w) := by
  refine fx_enterS (args := #[.pointer (some ⟨cl, 0, none⟩), .pointer (some ⟨ce, 0, none⟩)]) Try.func30 rfl (N := (13, [])) (T := [(0, .pointer (some ⟨cl, 0, none⟩)), (1, .pointer (some ⟨ce, 0, none⟩))]) rfl (show 2 ≤ 13 by decide) ⟨rfl, rfl, trivial⟩ rfl rfl (by decide) (fun _ _ => rfl) (u1 := .returning) (rv := .nilIface) (.inl ⟨rfl, rfl, rfl⟩) fun c₀ cs a fr => ?_
  refine wp_block ?_
  refine wp_seq ?_
  refine wp_region_lit ?_  -- region 3
  refine fx_val (v := .bool true) fr rfl rfl (by first | decide | simp) (x_ieqn Try.underlying20 rfl (fr.ev rfl) rfl) ?_
  clear fr a; intro a fr
  refine wpList_nil ?_
  refine fx_next ?_
  refine fx_cond_t fr rfl ?_
  refine wp_region_lit ?_  -- region 4
  refine fx_val (v := .nilIface) fr rfl rfl (by first | decide | simp) (x_assign rfl (fr.ev rfl)) ?_
  clear fr a; intro a fr
  refine wpList_nil ?_
  refine fx_blk ?_
  refine fx_retS fr [] [] rfl trivial rfl ?_
  exact ⟨rfl, rfl, rfl⟩
set_option maxRecDepth 100000 in
set_option maxHeartbeats 4000000 in
theorem caught_stop {w : World} {cl ce : Nat} {y : Value} {x0 : Int} (hC : Blk w cl 23 #[y]) (hK : Blk w ce 37 #[.int .i64 x0]) (ne_cl_ce : NE cl ce) (why : Int) : CallsD Try.prog 30 #[.pointer (some ⟨cl, 0, none⟩), .pointer (some ⟨ce, 0, none⟩)] (.panicking [{ v := .iface 75 (.agg #[.int .i64 why]), recovered := false }]) w (fun e u' w' => e = .returned (.tuple #[]) ∧ u' = .panicking [{ v := .iface 75 (.agg #[.int .i64 why]), recovered := true }] ∧ Blk w' cl 23 #[.slice none 0 0] ∧ Blk w' ce 37 #[.int .i64 why] ∧ Only (fun k => k = cl ∨ k = ce) w w') := by
  have hF := Only.refl (fun k => k = cl ∨ k = ce) w
  refine fx_enterS (args := #[.pointer (some ⟨cl, 0, none⟩), .pointer (some ⟨ce, 0, none⟩)]) Try.func30 rfl (N := (13, [])) (T := [(0, .pointer (some ⟨cl, 0, none⟩)), (1, .pointer (some ⟨ce, 0, none⟩))]) rfl (show 2 ≤ 13 by decide) ⟨rfl, rfl, trivial⟩ rfl rfl (by decide) (fun _ _ => rfl) (u1 := .panicking [{ v := .iface 75 (.agg #[.int .i64 why]), recovered := true }]) (rv := .iface 75 (.agg #[.int .i64 why])) (.inr ⟨rfl, rfl⟩) fun c₀ cs a fr => ?_
  refine wp_block ?_
  refine wp_seq ?_
  refine wp_region_lit ?_  -- region 3
  refine fx_val (v := .bool false) fr rfl rfl (by first | decide | simp) (x_ieql Try.underlying20 rfl (fr.ev rfl) rfl) ?_
  clear fr a; intro a fr
  refine wpList_nil ?_
  refine fx_next ?_
  refine fx_cond_f fr rfl ?_
  refine wp_seq ?_
  refine wp_region_lit ?_  -- region 5
  refine fx_val (v := .tuple #[.agg (#[.int .i64 why]), .bool true]) fr rfl rfl (by first | decide | simp) (x_typeAssert rfl (fr.ev rfl) Try.underlying75 rfl) ?_
  clear fr a; intro a fr
  refine fx_val (v := .bool true) fr rfl rfl (by first | decide | simp) (x_extract rfl (fr.ev rfl) rfl) ?_
  clear fr a; intro a fr
  refine fx_val (v := .agg (#[.int .i64 why])) fr rfl rfl (by first | decide | simp) (x_extract rfl (fr.ev rfl) rfl) ?_
  clear fr a; intro a fr
  refine wpList_nil ?_
  refine fx_next ?_
  refine fx_cond_t fr rfl ?_
  refine wp_seq ?_
  refine wp_region_lit ?_  -- region 6
  refine fx_new fr rfl rfl (by first | decide | simp) (x_alloc (z := .agg (#[.int .i64 0])) (cs := #[.int .i64 0]) rfl (by kernel_rfl) rfl) ?_
  clear fr a
  intro b1 w2 hN3 B4 hb5 a fr
  have ne_cl_b1 : NE cl b1 := NE.mk (Nat.lt_of_lt_of_le hC.lt hb5)
  have ne_ce_b1 : NE ce b1 := NE.mk (Nat.lt_of_lt_of_le hK.lt hb5)
  have g_b1 := Nat.le_trans hF.size hb5
  replace hC := hC.new hN3
  replace hK := hK.new hN3
  replace hF := hF.trNew hN3
  refine fx_storeS sz75 rfl rfl rfl (fr.ev rfl) (fr.ev rfl) (by simp [Value.oneCell']) B4 rfl rfl fun w6 hO7 hBq => ?_
  replace hC := hC.only hO7 (by first | exact ne_cl_b1 | exact ne_b1_cl.symm | (show ¬ cl = b1; omega))
  replace hK := hK.only hO7 (by first | exact ne_ce_b1 | exact ne_b1_ce.symm | (show ¬ ce = b1; omega))
  replace hF := hF.loc hO7 (.inr g_b1)
  replace B4 := hBq
  clear hBq
  refine wpList_nil ?_
  refine fx_next ?_
  refine fx_heldT (n := 3) (k := 3) (fun w => Blk w ce 37 #[.int .i64 x0] ∧ Blk w b1 75 (#[.int .i64 why]) ∧ True) (by kernel_rfl) (by kernel_rfl) rfl ?_  -- region 7
  intro w8 hN9
  replace hC := hC.new hN9
  replace hK := hK.new hN9
  replace B4 := B4.new hN9
  replace hF := hF.trNew hN9
  refine fx_take (i := 0) (v := .pointer (some ⟨b1, 0, none⟩)) fr rfl (by kernel_rfl) rfl rfl (by first | decide | simp) (fun _ _ _ h => h) (fun _ ⟨hK, B4, _⟩ => x_fieldAddr fo75_0 rfl (fr.ev rfl) rfl) ⟨hK, B4, trivial⟩ ?_
  clear fr a; intro a fr
  refine fx_take (i := 1) (v := .int .i64 why) fr rfl (by kernel_rfl) rfl rfl (by first | decide | simp) (fun _ _ _ h => h) (fun _ ⟨hK, B4, _⟩ => x_load1 pl37 rfl (fr.ev rfl) (B4.cell 0 rfl)) ⟨hK, B4, trivial⟩ ?_
  clear fr a; intro a fr
  refine fx_one (i := 2) (by kernel_rfl) (fx_op rfl ?_)
  refine fx_store1 sz23 rfl rfl rfl (fr.ev rfl) rfl rfl hC (show 0 < 1 by decide) (cs' := #[.slice none 0 0]) rfl fun w10 hO11 hBq => ?_
  replace hK := hK.only hO11 (by first | exact ne_ce_cl | exact ne_cl_ce.symm | (show ¬ ce = cl; omega))
  replace B4 := B4.only hO11 (by first | exact ne_b1_cl | exact ne_cl_b1.symm | (show ¬ b1 = cl; omega))
  replace hF := hF.loc hO11 (.inl (.inl rfl))
  replace hC := hBq
  clear hBq
  refine wpList_nil ?_
  refine ⟨⟨hK, B4, trivial⟩, ?_⟩
  refine fx_hdone (by kernel_rfl) ?_
  refine fx_tail ?_
  refine fx_store1 sz37 rfl rfl rfl (fr.ev rfl) (fr.ev rfl) rfl hK (show 0 < 1 by decide) (cs' := #[.int .i64 why]) rfl fun w12 hO13 hBq => ?_
  replace B4 := B4.only hO13 (by first | exact ne_b1_ce | exact ne_ce_b1.symm | (show ¬ b1 = ce; omega))
  replace hC := hC.only hO13 (by first | exact ne_cl_ce | exact ne_ce_cl.symm | (show ¬ cl = ce; omega))
  replace hF := hF.loc hO13 (.inl (.inr rfl))
  replace hK := hBq
  clear hBq
  refine wpList_nil ?_
  refine fx_blk ?_
  refine fx_retS fr [] [] rfl trivial rfl ?_
  exact ⟨rfl, rfl, hC, hK, hF⟩
end Go.Proofs.Ytdiaemlgghfecaa
