/-
  Part 5 of what the claim stands on: walks through the code, plain laws.
-/
import Derived.Test.YtdiaemlgghfecaaZQueues4
namespace Go.Proofs.Ytdiaemlgghfecaa
open Go.RowKit
theorem set_self {E : List Ent} {k : Nat} (h : k < E.length) : E.set k (entOf E k) = E := by
  apply List.ext_getElem
  · rw [List.length_set]
  · intro i h1 h2
    rw [List.getElem_set]
    split
    · rename_i e; subst e; simp [entOf, List.getD, h]
    · rfl
set_option maxRecDepth 100000 in
set_option maxHeartbeats 4000000 in
theorem rfin_c (n : Int) (hn : 0 ≤ n ∧ n < 4294967296) {w : World} {FpR : Nat → Prop} {A : Option Addr} {cap : Nat} {B : Option Addr} {cb : Nat} {bs : List UInt8} {E : List Ent} {X : List EC} (H : RefAt w FpR A cap B cb ⟨bs, E⟩ X) (hk : n.toNat < E.length) (hEb : E.length = bs.length / 16) (hb4 : bs.length ≤ 4096) (hq : ∀ x ∈ (entOf E n.toNat).q, QOk n x) (hql : (entOf E n.toNat).q.length ≤ 100000)  : Calls Try.prog 42 #[.agg (#[.slice A bs.length cap, .slice B E.length cb]), .int .u32 n] w (Ret fun v w' => ∃ A' c' B' cb' F' M mc, v = .tuple #[.agg #[.slice A' (drainF (entOf E n.toNat).q bs (Ent.mk (entOf E n.toNat).o (entOf E n.toNat).sh false 0 0 0 false (entOf E n.toNat).q)).2.1.length c', .slice B' (E.set n.toNat (drainF (entOf E n.toNat).q bs (Ent.mk (entOf E n.toNat).o (entOf E n.toNat).sh false 0 0 0 false (entOf E n.toNat).q)).1).length cb'], .slice M (drainF (entOf E n.toNat).q bs (Ent.mk (entOf E n.toNat).o (entOf E n.toNat).sh false 0 0 0 false (entOf E n.toNat).q)).2.2.length mc, .int .i64 0] ∧ RefH w' F' A' c' B' cb' ⟨(drainF (entOf E n.toNat).q bs (Ent.mk (entOf E n.toNat).o (entOf E n.toNat).sh false 0 0 0 false (entOf E n.toNat).q)).2.1, E.set n.toNat (drainF (entOf E n.toNat).q bs (Ent.mk (entOf E n.toNat).o (entOf E n.toNat).sh false 0 0 0 false (entOf E n.toNat).q)).1⟩ ∧ Own msgE w' M mc (drainF (entOf E n.toNat).q bs (Ent.mk (entOf E n.toNat).o (entOf E n.toNat).sh false 0 0 0 false (entOf E n.toNat).q)).2.2 ∧ (∀ g, F' g → FpR g ∨ w.heap.size ≤ g) ∧ (∀ g, inA M g → w.heap.size ≤ g) ∧ (∀ g, F' g → inA M g → False) ∧ New w w') := by
 have hXl : X.length = E.length := H.len
 have mF_FpR : ∀ g, FpR g → FpR g ∨ w.heap.size ≤ g := fun g h => .inl h
 have hF := Only.refl (fun _ => False) w
 refine fx_enter Try.func42 rfl (N := (76, [])) (T := [(0, .agg (#[.slice A bs.length cap, .slice B E.length cb])), (1, .int .u32 n)]) rfl (show 2 ≤ 76 by decide) ⟨rfl, rfl, trivial⟩ fun a fr => ?_
 refine wp_seq ?_
 refine wp_region_lit ?_
 refine fx_new fr rfl rfl (by decide) (x_box (cs := #[.slice A bs.length cap, .slice B E.length cb]) rfl (fr.ev rfl) rfl) ?_
 clear fr a
 intro b1 w2 hN3 B4 hb5 a fr
 have ap_FpR_b1 : ¬ FpR b1 := H.apart hb5
 have g_b1 := Nat.le_trans hF.size hb5
 replace H := H.new hN3
 replace hF := hF.trNew hN3
 refine fx_new fr rfl rfl (by decide) (x_alloc (z := .agg (#[.slice none 0 0, .slice none 0 0])) (cs := #[.slice none 0 0, .slice none 0 0]) rfl (by kernel_rfl) rfl) ?_
 clear fr a
 intro b6 w7 hN8 B9 hb10 a fr
 have ap_FpR_b6 : ¬ FpR b6 := H.apart hb10
 have ne_b1_b6 : NE b1 b6 := NE.mk (Nat.lt_of_lt_of_le B4.lt hb10)
 have g_b6 := Nat.le_trans hF.size hb10
 replace H := H.new hN8
 replace B4 := B4.new hN8
 replace hF := hF.trNew hN8
 refine fx_val (v := .slice none 0 0) fr rfl rfl (by decide) (x_assign rfl rfl) ?_
 clear fr a; intro a fr
 refine fx_val (v := .int .i64 0) fr rfl rfl (by decide) (x_assign rfl rfl) ?_
 clear fr a; intro a fr
 refine wpList_nil ?_
 refine fx_next ?_
 refine wp_seq ?_
 refine wp_region_lit ?_
 refine fx_val (v := .pointer (some ⟨b1, 1, none⟩)) fr rfl rfl (by decide) (x_fieldAddr fo28_1 rfl (fr.ev rfl) rfl) ?_
 clear fr a; intro a fr
 refine fx_val (v := .slice B E.length cb) fr rfl rfl (by decide) (x_load1 pl26 rfl (fr.ev rfl) (B4.cell 1 rfl)) ?_
 clear fr a; intro a fr
 refine fx_val (v := .int .u32 n) fr rfl rfl (by decide) (x_move rfl (fr.ev rfl)) ?_
 clear fr a; intro a fr
 refine fx_val (v := .int .i64 ((n.toNat : Nat) : Int)) fr rfl rfl (by decide) (x_convert Try.underlying24 Try.underlying3 rfl (fr.ev rfl) (i64w (r := ((n.toNat : Nat) : Int)) (by omega) (by omega))) ?_
 clear fr a; intro a fr
 obtain ⟨g11, o12, hA13⟩ := (H.ve).some_ (by first | omega | decide)
 refine fx_val (v := .pointer (some ⟨g11, o12 + n.toNat * 11, none⟩)) fr rfl rfl (by decide) (x_indexV Try.underlying26 sz42 rfl (fr.ev rfl) hA13 (fr.ev rfl) (by first | omega | decide) rfl) ?_
 clear fr a; intro a fr
 obtain ⟨Q14, qc15, hat16, hQ17, hQF18⟩ := H.at_ n.toNat (by omega)
 dsimp only at hat16 hQ17
 have mQ_Q14 := fun g (hg : inA Q14 g) => mF_FpR g (hQF18 g hg)
 have ap_Q14_b1 : Apart Q14 b1 := fun h => ap_FpR_b1 (hQF18 _ h)
 have ap_Q14_b6 : Apart Q14 b6 := fun h => ap_FpR_b6 (hQF18 _ h)
 refine fx_val (v := .agg (entA (entOf E n.toNat) (.slice Q14 ((entOf E n.toNat).q.length) qc15))) fr rfl rfl (by decide) (x_loadE (E := ecE) (p := ecOf (entOf E n.toNat) Q14 qc15) ag42 rfl rfl (fr.ev rfl) (H.cell hat16 (by omega) hA13)) ?_
 clear fr a; intro a fr
 refine fx_new fr rfl rfl (by decide) (x_alloc (z := .agg (#[.int .i64 0, .bool false, .bool false, .bool false, .bool false, .bool false, .int .i64 0, .int .i64 0, .int .i64 0, .bool false, .slice none 0 0])) (cs := #[.int .i64 0, .bool false, .bool false, .bool false, .bool false, .bool false, .int .i64 0, .int .i64 0, .int .i64 0, .bool false, .slice none 0 0]) rfl (by kernel_rfl) rfl) ?_
 clear fr a
 intro b19 w20 hN21 B22 hb23 a fr
 have ap_FpR_b19 : ¬ FpR b19 := H.apart hb23
 have ne_b1_b19 : NE b1 b19 := NE.mk (Nat.lt_of_lt_of_le B4.lt hb23)
 have ne_b6_b19 : NE b6 b19 := NE.mk (Nat.lt_of_lt_of_le B9.lt hb23)
 have ap_Q14_b19 : Apart Q14 b19 := hQ17.apart hb23
 have g_b19 := Nat.le_trans hF.size hb23
 replace H := H.new hN21
 replace B4 := B4.new hN21
 replace B9 := B9.new hN21
 replace hQ17 := hQ17.new hN21
 replace hF := hF.trNew hN21
 refine fx_storeS sz42 rfl rfl rfl (fr.ev rfl) (fr.ev rfl) (ent_all _ _ _ _) B22 rfl rfl fun w24 hO25 hBq => ?_
 replace H := H.only hO25 (ne1P ap_FpR_b19)
 replace B4 := B4.only hO25 (by first | exact ne_b1_b19 | exact ne_b19_b1.symm | (show ¬ b1 = b19; omega))
 replace B9 := B9.only hO25 (by first | exact ne_b6_b19 | exact ne_b19_b6.symm | (show ¬ b6 = b19; omega))
 replace hQ17 := hQ17.only hO25 (Apart.ne1 ap_Q14_b19)
 replace hF := hF.loc hO25 (.inr g_b19)
 replace B22 := hBq
 clear hBq
 refine wpList_nil ?_
 refine fx_next ?_
 refine wp_seq ?_
 refine wp_region_lit ?_
 refine fx_val (v := .pointer (some ⟨b19, 5, none⟩)) fr rfl rfl (by decide) (x_fieldAddr fo42_2 rfl (fr.ev rfl) rfl) ?_
 clear fr a; intro a fr
 refine fx_store1 sz4 rfl rfl rfl (fr.ev rfl) rfl rfl B22 (show 5 < 11 by decide) (cs' := entA (Ent.mk ((entOf E n.toNat).o) ((entOf E n.toNat).sh) false ((entOf E n.toNat).asks) ((entOf E n.toNat).kind) ((entOf E n.toNat).waits) ((entOf E n.toNat).told) ((entOf E n.toNat).q)) (.slice Q14 ((entOf E n.toNat).q.length) qc15)) rfl fun w26 hO27 hBq => ?_
 replace H := H.only hO27 (ne1P ap_FpR_b19)
 replace B4 := B4.only hO27 (by first | exact ne_b1_b19 | exact ne_b19_b1.symm | (show ¬ b1 = b19; omega))
 replace B9 := B9.only hO27 (by first | exact ne_b6_b19 | exact ne_b19_b6.symm | (show ¬ b6 = b19; omega))
 replace hQ17 := hQ17.only hO27 (Apart.ne1 ap_Q14_b19)
 replace hF := hF.loc hO27 (.inr g_b19)
 replace B22 := hBq
 clear hBq
 refine fx_val (v := .pointer (some ⟨b19, 6, none⟩)) fr rfl rfl (by decide) (x_fieldAddr fo42_3 rfl (fr.ev rfl) rfl) ?_
 clear fr a; intro a fr
 refine fx_store1 sz3 rfl rfl rfl (fr.ev rfl) rfl rfl B22 (show 6 < 11 by decide) (cs' := entA (Ent.mk ((entOf E n.toNat).o) ((entOf E n.toNat).sh) false 0 ((entOf E n.toNat).kind) ((entOf E n.toNat).waits) ((entOf E n.toNat).told) ((entOf E n.toNat).q)) (.slice Q14 ((entOf E n.toNat).q.length) qc15)) rfl fun w28 hO29 hBq => ?_
 replace H := H.only hO29 (ne1P ap_FpR_b19)
 replace B4 := B4.only hO29 (by first | exact ne_b1_b19 | exact ne_b19_b1.symm | (show ¬ b1 = b19; omega))
 replace B9 := B9.only hO29 (by first | exact ne_b6_b19 | exact ne_b19_b6.symm | (show ¬ b6 = b19; omega))
 replace hQ17 := hQ17.only hO29 (Apart.ne1 ap_Q14_b19)
 replace hF := hF.loc hO29 (.inr g_b19)
 replace B22 := hBq
 clear hBq
 refine fx_val (v := .pointer (some ⟨b19, 7, none⟩)) fr rfl rfl (by decide) (x_fieldAddr fo42_4 rfl (fr.ev rfl) rfl) ?_
 clear fr a; intro a fr
 refine fx_store1 sz33 rfl rfl rfl (fr.ev rfl) rfl rfl B22 (show 7 < 11 by decide) (cs' := entA (Ent.mk ((entOf E n.toNat).o) ((entOf E n.toNat).sh) false 0 0 ((entOf E n.toNat).waits) ((entOf E n.toNat).told) ((entOf E n.toNat).q)) (.slice Q14 ((entOf E n.toNat).q.length) qc15)) rfl fun w30 hO31 hBq => ?_
 replace H := H.only hO31 (ne1P ap_FpR_b19)
 replace B4 := B4.only hO31 (by first | exact ne_b1_b19 | exact ne_b19_b1.symm | (show ¬ b1 = b19; omega))
 replace B9 := B9.only hO31 (by first | exact ne_b6_b19 | exact ne_b19_b6.symm | (show ¬ b6 = b19; omega))
 replace hQ17 := hQ17.only hO31 (Apart.ne1 ap_Q14_b19)
 replace hF := hF.loc hO31 (.inr g_b19)
 replace B22 := hBq
 clear hBq
 refine fx_val (v := .pointer (some ⟨b19, 8, none⟩)) fr rfl rfl (by decide) (x_fieldAddr fo42_5 rfl (fr.ev rfl) rfl) ?_
 clear fr a; intro a fr
 refine fx_store1 sz3 rfl rfl rfl (fr.ev rfl) rfl rfl B22 (show 8 < 11 by decide) (cs' := entA (Ent.mk ((entOf E n.toNat).o) ((entOf E n.toNat).sh) false 0 0 0 ((entOf E n.toNat).told) ((entOf E n.toNat).q)) (.slice Q14 ((entOf E n.toNat).q.length) qc15)) rfl fun w32 hO33 hBq => ?_
 replace H := H.only hO33 (ne1P ap_FpR_b19)
 replace B4 := B4.only hO33 (by first | exact ne_b1_b19 | exact ne_b19_b1.symm | (show ¬ b1 = b19; omega))
 replace B9 := B9.only hO33 (by first | exact ne_b6_b19 | exact ne_b19_b6.symm | (show ¬ b6 = b19; omega))
 replace hQ17 := hQ17.only hO33 (Apart.ne1 ap_Q14_b19)
 replace hF := hF.loc hO33 (.inr g_b19)
 replace B22 := hBq
 clear hBq
 refine fx_val (v := .pointer (some ⟨b19, 9, none⟩)) fr rfl rfl (by decide) (x_fieldAddr fo42_6 rfl (fr.ev rfl) rfl) ?_
 clear fr a; intro a fr
 refine fx_store1 sz4 rfl rfl rfl (fr.ev rfl) rfl rfl B22 (show 9 < 11 by decide) (cs' := entA (Ent.mk ((entOf E n.toNat).o) ((entOf E n.toNat).sh) false 0 0 0 false ((entOf E n.toNat).q)) (.slice Q14 ((entOf E n.toNat).q.length) qc15)) rfl fun w34 hO35 hBq => ?_
 replace H := H.only hO35 (ne1P ap_FpR_b19)
 replace B4 := B4.only hO35 (by first | exact ne_b1_b19 | exact ne_b19_b1.symm | (show ¬ b1 = b19; omega))
 replace B9 := B9.only hO35 (by first | exact ne_b6_b19 | exact ne_b19_b6.symm | (show ¬ b6 = b19; omega))
 replace hQ17 := hQ17.only hO35 (Apart.ne1 ap_Q14_b19)
 replace hF := hF.loc hO35 (.inr g_b19)
 replace B22 := hBq
 clear hBq
 refine wpList_nil ?_
 refine fx_next ?_
 refine wp_seq ?_
 refine wp_region_lit ?_
 refine fx_val (v := .agg (#[.slice A bs.length cap, .slice B E.length cb])) fr rfl rfl (by decide) (x_loadS ag28 rfl (fr.ev rfl) rfl B4.range) ?_
 clear fr a; intro a fr
 refine fx_val (v := .int .u32 n) fr rfl rfl (by decide) (x_move rfl (fr.ev rfl)) ?_
 clear fr a; intro a fr
 refine fx_val (v := .agg (entA (Ent.mk ((entOf E n.toNat).o) ((entOf E n.toNat).sh) false 0 0 0 false ((entOf E n.toNat).q)) (.slice Q14 ((entOf E n.toNat).q.length) qc15))) fr rfl rfl (by decide) (x_loadS ag42 rfl (fr.ev rfl) rfl B22.range) ?_
 clear fr a; intro a fr
 refine fx_call fr rfl rfl (by decide) (x_call (vs := [.agg (#[.slice A bs.length cap, .slice B E.length cb]), .int .u32 n, .agg (entA (Ent.mk ((entOf E n.toNat).o) ((entOf E n.toNat).sh) false 0 0 0 false ((entOf E n.toNat).q)) (.slice Q14 ((entOf E n.toNat).q.length) qc15))]) rfl rfl ⟨(fr.ev rfl), (fr.ev rfl), (fr.ev rfl), trivial⟩ Try.func40 nm40 rfl) (rwith_r n hn (Ent.mk ((entOf E n.toNat).o) ((entOf E n.toNat).sh) false 0 0 0 false ((entOf E n.toNat).q)) Q14 qc15 H (by omega) (by omega) hQ17) ?_
 clear fr a
 rintro v w41 ⟨B36, cb37, FpR38, rfl, H39, mv40, hN42⟩ a fr
 have ap_FpR38_b1 : ¬ FpR38 b1 := moved_apartP mv40 (fun h => h.elim ap_FpR_b1 ap_Q14_b1) B4.lt
 have ap_FpR38_b6 : ¬ FpR38 b6 := moved_apartP mv40 (fun h => h.elim ap_FpR_b6 ap_Q14_b6) B9.lt
 have ap_FpR38_b19 : ¬ FpR38 b19 := moved_apartP mv40 (fun h => h.elim ap_FpR_b19 ap_Q14_b19) B22.lt
 have mF_FpR38 : ∀ g, FpR38 g → FpR g ∨ w.heap.size ≤ g := fun g hg => (mv40 g hg).elim (fun h => h.elim (mF_FpR g) (mQ_Q14 g)) (fun h => .inr (Nat.le_trans hF.size h))
 replace H := H.new hN42
 replace B4 := B4.new hN42
 replace B9 := B9.new hN42
 replace hQ17 := hQ17.new hN42
 replace B22 := B22.new hN42
 replace hF := hF.trNew hN42
 have hel43 : (E.set n.toNat (Ent.mk ((entOf E n.toNat).o) ((entOf E n.toNat).sh) false 0 0 0 false ((entOf E n.toNat).q))).length = E.length := List.length_set
 have hxl44 := H39.len
 simp only [List.length_set] at hxl44
 refine fx_storeS sz28 rfl rfl rfl (fr.ev rfl) (fr.ev rfl) (by simp [Value.oneCell']) B4 rfl rfl fun w45 hO46 hBq => ?_
 replace H := H.only hO46 (ne1P ap_FpR_b1)
 replace B9 := B9.only hO46 (by first | exact ne_b6_b1 | exact ne_b1_b6.symm | (show ¬ b6 = b1; omega))
 replace hQ17 := hQ17.only hO46 (Apart.ne1 ap_Q14_b1)
 replace B22 := B22.only hO46 (by first | exact ne_b19_b1 | exact ne_b1_b19.symm | (show ¬ b19 = b1; omega))
 replace H39 := H39.only hO46 (ne1P ap_FpR38_b1)
 replace hF := hF.loc hO46 (.inr g_b1)
 replace B4 := hBq
 clear hBq
 refine wpList_nil ?_
 refine fx_next ?_
 refine wp_seq ?_
 refine wp_region_lit ?_
 refine fx_val (v := .slice none 0 0) fr rfl rfl (by decide) (x_assign rfl rfl) ?_
 clear fr a; intro a fr
 refine wpList_nil ?_
 refine fx_next ?_
 refine wp_seq ?_
 refine wp_block ?_
 have hnew0 : entOf (E.set n.toNat (Ent.mk ((entOf E n.toNat).o) ((entOf E n.toNat).sh) false 0 0 0 false ((entOf E n.toNat).q))) n.toNat = (Ent.mk (entOf E n.toNat).o (entOf E n.toNat).sh false 0 0 0 false (entOf E n.toNat).q) := by rw [entOf_set (by omega), if_pos rfl]
 refine fx_loop (fun nM a wL => ∃ FpL : Nat → Prop, ∃ AL : Option Addr, ∃ capL : Nat, ∃ BL : Option Addr, ∃ cbL : Nat, ∃ bsL : List UInt8, ∃ EL : List Ent, ∃ XL : List EC, ∃ eL : Ent, ∃ QL : Option Addr, ∃ qcL : Nat, ∃ MU : Option Addr, ∃ mcU : Nat, ∃ out9 : List Msg, nM = (entOf EL n.toNat).q.length ∧ Fr (76, []) [(1, .int .u32 n), (2, .pointer (some ⟨b1, 0, none⟩)), (4, .pointer (some ⟨b6, 0, none⟩)), (7, .pointer (some ⟨b19, 0, none⟩)), (8, .slice MU out9.length mcU)] a ∧ Only (fun _ => False) w wL ∧ RefAt wL FpL AL capL BL cbL (HD.mk bsL EL) XL ∧ Own msgE wL MU mcU out9 ∧ Blk wL b1 28 (#[.slice AL bsL.length capL, .slice BL EL.length cbL]) ∧ Blk wL b19 42 (entA eL (.slice QL eL.q.length qcL)) ∧ Blk wL b6 28 (#[.slice none 0 0, .slice none 0 0]) ∧ addF out9 (drainF (entOf EL n.toNat).q bsL (entOf EL n.toNat)) = addF [] (drainF (entOf E n.toNat).q bs (Ent.mk (entOf E n.toNat).o (entOf E n.toNat).sh false 0 0 0 false (entOf E n.toNat).q)) ∧ (∀ x ∈ (entOf EL n.toNat).q, QOk n x) ∧ out9.length + 8 + 5 * (entOf EL n.toNat).q.length ≤ 1000000 ∧ EL.length = E.length ∧ bsL.length = bs.length ∧ (∀ d, EL.set n.toNat d = E.set n.toNat d) ∧ (∀ g, FpL g → FpR g ∨ w.heap.size ≤ g) ∧ (∀ k, FpL k → inA MU k → False) ∧ (¬ FpL b1) ∧ (¬ FpL b19) ∧ (¬ FpL b6) ∧ (Apart MU b1) ∧ (Apart MU b19) ∧ (Apart MU b6) ∧ (∀ g, inA MU g → (fun _ => False) g ∨ w.heap.size ≤ g)) (n0 := _) ⟨FpR38, A, cap, B36, cb37, (bs), (E.set n.toNat (Ent.mk ((entOf E n.toNat).o) ((entOf E n.toNat).sh) false 0 0 0 false ((entOf E n.toNat).q))), X.set n.toNat (ecOf (Ent.mk ((entOf E n.toNat).o) ((entOf E n.toNat).sh) false 0 0 0 false ((entOf E n.toNat).q)) Q14 qc15), (Ent.mk ((entOf E n.toNat).o) ((entOf E n.toNat).sh) false 0 0 0 false ((entOf E n.toNat).q)), Q14, qc15, none, 0, [], rfl, fr.sub ⟨rfl, rfl, rfl, rfl, rfl, trivial⟩, hF, H39, Own.nil, B4, B22, B9, (by rw [hnew0]), (by rw [hnew0]; exact hq), (by rw [hnew0, List.length_nil]; show 0 + 8 + 5 * (entOf E n.toNat).q.length ≤ 1000000; omega), List.length_set, rfl, (fun d => List.set_set ..), mF_FpR38, (fun k _ h => apart_none k h), ap_FpR38_b1, ap_FpR38_b19, ap_FpR38_b6, (apart_none b1), (apart_none b19), (apart_none b6), gA_none⟩ ?_
 rintro n48 a w47 ⟨FpL, AL, capL, BL, cbL, bsL, EL, XL, eL, QL, qcL, MU, mcU, out9, rfl, fr, hF, HL, OU, B4, B22, B9, hp0, hp1, hp2, hp3, hp4, hp5, mF_FpL, ap2_FpL_MU, ap_FpL_b1, ap_FpL_b19, ap_FpL_b6, ap_MU_b1, ap_MU_b19, ap_MU_b6, gA_MU⟩
 have hXL : XL.length = EL.length := HL.len
 refine wp_seq ?_
 refine wp_seq ?_
 refine wp_region_lit ?_
 refine fx_val (v := .pointer (some ⟨b1, 1, none⟩)) fr rfl rfl (by decide) (x_fieldAddr fo28_1 rfl (fr.ev rfl) rfl) ?_
 clear fr a; intro a fr
 refine fx_val (v := .slice BL EL.length cbL) fr rfl rfl (by decide) (x_load1 pl26 rfl (fr.ev rfl) (B4.cell 1 rfl)) ?_
 clear fr a; intro a fr
 refine fx_val (v := .int .u32 n) fr rfl rfl (by decide) (x_move rfl (fr.ev rfl)) ?_
 clear fr a; intro a fr
 refine fx_val (v := .int .i64 ((n.toNat : Nat) : Int)) fr rfl rfl (by decide) (x_convert Try.underlying24 Try.underlying3 rfl (fr.ev rfl) (i64w (r := ((n.toNat : Nat) : Int)) (by omega) (by omega))) ?_
 clear fr a; intro a fr
 obtain ⟨g49, o50, hA51⟩ := (HL.ve).some_ (by first | omega | decide)
 refine fx_val (v := .pointer (some ⟨g49, o50 + n.toNat * 11, none⟩)) fr rfl rfl (by decide) (x_indexV Try.underlying26 sz42 rfl (fr.ev rfl) hA51 (fr.ev rfl) (by first | omega | decide) rfl) ?_
 clear fr a; intro a fr
 refine fx_val (v := .pointer (some ⟨g49, o50 + n.toNat * 11 + 5, none⟩)) fr rfl rfl (by decide) (x_fieldAddr fo42_2 rfl (fr.ev rfl) rfl) ?_
 clear fr a; intro a fr
 obtain ⟨Q52, qc53, hat54, hQ55, hQF56⟩ := HL.at_ n.toNat (by omega)
 dsimp only at hat54 hQ55
 have mQ_Q52 := fun g (hg : inA Q52 g) => mF_FpL g (hQF56 g hg)
 have ap2_Q52_MU : Apart2 Q52 MU := fun k h1 h2 => ap2_FpL_MU k (hQF56 k h1) h2
 have ap_Q52_b1 : Apart Q52 b1 := fun h => ap_FpL_b1 (hQF56 _ h)
 have ap_Q52_b19 : Apart Q52 b19 := fun h => ap_FpL_b19 (hQF56 _ h)
 have ap_Q52_b6 : Apart Q52 b6 := fun h => ap_FpL_b6 (hQF56 _ h)
 refine fx_val (v := .bool ((entOf EL n.toNat).busy)) fr rfl rfl (by decide) (x_load1 pl4 rfl (fr.ev rfl) (range_cell (HL.cell hat54 (by omega) hA51) 5 rfl rfl)) ?_
 clear fr a; intro a fr
 refine fx_val (v := .bool (!((entOf EL n.toNat).busy))) fr rfl rfl (by decide) (x_not rfl (fr.ev rfl) rfl) ?_
 clear fr a; intro a fr
 refine fx_val (v := .bool (!((entOf EL n.toNat).busy))) fr rfl rfl (by decide) (x_move rfl (fr.ev rfl)) ?_
 clear fr a; intro a fr
 refine fx_may (g := (!((entOf EL n.toNat).busy))) (v := .pointer (some ⟨b1, 1, none⟩)) fr rfl rfl rfl (by simp) rfl (by decide) (fun hg => x_fieldAddr fo28_1 rfl (fr.ev rfl) rfl) ?_
 clear fr a; intro a fr
 refine fx_may (g := (!((entOf EL n.toNat).busy))) (v := .slice BL EL.length cbL) fr rfl rfl rfl (by simp) rfl (by decide) (fun hg => x_load1 pl26 rfl ((fr.ev rfl).trans (onlyIf_t hg)) (B4.cell 1 rfl)) ?_
 clear fr a; intro a fr
 refine fx_may (g := (!((entOf EL n.toNat).busy))) (v := .int .u32 n) fr rfl rfl rfl (by simp) rfl (by decide) (fun hg => x_move rfl (fr.ev rfl)) ?_
 clear fr a; intro a fr
 refine fx_may (g := (!((entOf EL n.toNat).busy))) (v := .int .i64 ((n.toNat : Nat) : Int)) fr rfl rfl rfl (by simp) rfl (by decide) (fun hg => x_convert Try.underlying24 Try.underlying3 rfl ((fr.ev rfl).trans (onlyIf_t hg)) (i64w (r := ((n.toNat : Nat) : Int)) (by omega) (by omega))) ?_
 clear fr a; intro a fr
 refine fx_may (g := (!((entOf EL n.toNat).busy))) (v := .pointer (some ⟨g49, o50 + n.toNat * 11, none⟩)) fr rfl rfl rfl (by simp) rfl (by decide) (fun hg => x_indexV Try.underlying26 sz42 rfl ((fr.ev rfl).trans (onlyIf_t hg)) hA51 ((fr.ev rfl).trans (onlyIf_t hg)) (by first | omega | decide) rfl) ?_
 clear fr a; intro a fr
 refine fx_may (g := (!((entOf EL n.toNat).busy))) (v := .pointer (some ⟨g49, o50 + n.toNat * 11 + 10, none⟩)) fr rfl rfl rfl (by simp) rfl (by decide) (fun hg => x_fieldAddr fo42_7 rfl ((fr.ev rfl).trans (onlyIf_t hg)) rfl) ?_
 clear fr a; intro a fr
 refine fx_may (g := (!((entOf EL n.toNat).busy))) (v := .slice Q52 ((entOf EL n.toNat).q.length) qc53) fr rfl rfl rfl (by simp) rfl (by decide) (fun hg => x_load1 pl23 rfl ((fr.ev rfl).trans (onlyIf_t hg)) (range_cell (HL.cell hat54 (by omega) hA51) 10 rfl rfl)) ?_
 clear fr a; intro a fr
 refine fx_may (g := (!((entOf EL n.toNat).busy))) (v := .int .i64 (((entOf EL n.toNat).q.length : Nat) : Int)) fr rfl rfl rfl (by simp) rfl (by decide) (fun hg => x_len Try.underlying23 rfl ((fr.ev rfl).trans (onlyIf_t hg))) ?_
 clear fr a; intro a fr
 refine fx_may (g := (!((entOf EL n.toNat).busy))) (v := .bool (decide (0 < (((entOf EL n.toNat).q.length : Nat) : Int)))) fr rfl rfl rfl (by simp) rfl (by decide) (fun hg => x_gtr rfl ((fr.ev rfl).trans (onlyIf_t hg)) rfl rfl) ?_
 clear fr a; intro a fr
 refine fx_val (v := .bool ((!((entOf EL n.toNat).busy)) && (decide (0 < (((entOf EL n.toNat).q.length : Nat) : Int))))) fr rfl rfl (by decide) (x_pick_and rfl (fr.ev rfl) (fun hb => ((fr.ev rfl)).trans (onlyIf_t (by simp_all))) (fun _ => rfl) rfl) ?_
 clear fr a; intro a fr
 refine wpList_nil ?_
 refine fx_next ?_
 refine fx_cond fr rfl (fun hc57 => ?_) (fun hc57 => ?_)
 ·skip
  have hc57s := hc57
  try simp at hc57s
  refine wp_skip ?_
  refine fx_next ?_
  refine wp_block ?_
  refine wp_seq ?_
  have hgo := drain_go hc57
  have hgo2 := hgo.2
  have hq1 := hp1 _ (getD_in hgo2)
  refine wp_region_lit ?_
  refine fx_val (v := .pointer (some ⟨b1, 1, none⟩)) fr rfl rfl (by decide) (x_fieldAddr fo28_1 rfl (fr.ev rfl) rfl) ?_
  clear fr a; intro a fr
  refine fx_val (v := .slice BL EL.length cbL) fr rfl rfl (by decide) (x_load1 pl26 rfl (fr.ev rfl) (B4.cell 1 rfl)) ?_
  clear fr a; intro a fr
  refine fx_val (v := .int .u32 n) fr rfl rfl (by decide) (x_move rfl (fr.ev rfl)) ?_
  clear fr a; intro a fr
  refine fx_val (v := .int .i64 ((n.toNat : Nat) : Int)) fr rfl rfl (by decide) (x_convert Try.underlying24 Try.underlying3 rfl (fr.ev rfl) (i64w (r := ((n.toNat : Nat) : Int)) (by omega) (by omega))) ?_
  clear fr a; intro a fr
  refine fx_val (v := .pointer (some ⟨g49, o50 + n.toNat * 11, none⟩)) fr rfl rfl (by decide) (x_indexV Try.underlying26 sz42 rfl (fr.ev rfl) hA51 (fr.ev rfl) (by first | omega | decide) rfl) ?_
  clear fr a; intro a fr
  refine fx_val (v := .agg (entA (entOf EL n.toNat) (.slice Q52 ((entOf EL n.toNat).q.length) qc53))) fr rfl rfl (by decide) (x_loadE (E := ecE) (p := ecOf (entOf EL n.toNat) Q52 qc53) ag42 rfl rfl (fr.ev rfl) (HL.cell hat54 (by omega) hA51)) ?_
  clear fr a; intro a fr
  refine fx_storeS sz42 rfl rfl rfl (fr.ev rfl) (fr.ev rfl) (ent_all _ _ _ _) B22 rfl rfl fun w58 hO59 hBq => ?_
  replace HL := HL.only hO59 (ne1P ap_FpL_b19)
  replace OU := OU.only hO59 (Apart.ne1 ap_MU_b19)
  replace B4 := B4.only hO59 (by first | exact ne_b1_b19 | exact ne_b19_b1.symm | (show ¬ b1 = b19; omega))
  replace B9 := B9.only hO59 (by first | exact ne_b6_b19 | exact ne_b19_b6.symm | (show ¬ b6 = b19; omega))
  replace hQ55 := hQ55.only hO59 (Apart.ne1 ap_Q52_b19)
  replace hF := hF.loc hO59 (.inr g_b19)
  replace B22 := hBq
  clear hBq
  refine wpList_nil ?_
  refine fx_next ?_
  refine wp_seq ?_
  refine wp_region_lit ?_
  refine fx_val (v := .pointer (some ⟨b19, 10, none⟩)) fr rfl rfl (by decide) (x_fieldAddr fo42_7 rfl (fr.ev rfl) rfl) ?_
  clear fr a; intro a fr
  refine fx_val (v := .slice Q52 ((entOf EL n.toNat).q.length) qc53) fr rfl rfl (by decide) (x_load1 pl23 rfl (fr.ev rfl) (B22.cell 10 rfl)) ?_
  clear fr a; intro a fr
  obtain ⟨g60, o61, hA62⟩ := (hQ55).some_ (by first | omega | decide)
  refine fx_val (v := .pointer (some ⟨g60, o61 + 0 * 20, none⟩)) fr rfl rfl (by decide) (x_indexV Try.underlying23 sz36 rfl (fr.ev rfl) hA62 rfl (by first | omega | decide) rfl) ?_
  clear fr a; intro a fr
  refine fx_val (v := .agg (msgE.arr (((entOf EL n.toNat).q).getD 0 msg0))) fr rfl rfl (by decide) (x_loadE (E := msgE) ag36 rfl rfl (fr.ev rfl) ((hQ55).elem hA62 0 msg0 (by omega))) ?_
  clear fr a; intro a fr
  refine fx_new fr rfl rfl (by decide) (x_alloc (z := .agg (#[.int .i64 0, .int .i64 0, .int .i64 0, .int .u32 0, .int .u8 0, .int .u8 0, .int .u8 0, .int .u8 0, .int .u8 0, .int .u8 0, .int .u8 0, .int .u8 0, .int .u8 0, .int .u8 0, .int .u8 0, .int .u8 0, .int .u8 0, .int .u8 0, .int .u8 0, .int .u8 0])) (cs := msgE.arr msg0) rfl (by kernel_rfl) rfl) ?_
  clear fr a
  intro b63 w64 hN65 B66 hb67 a fr
  have ap_FpL_b63 : ¬ FpL b63 := HL.apart hb67
  have ap_MU_b63 : Apart MU b63 := OU.apart hb67
  have ne_b1_b63 : NE b1 b63 := NE.mk (Nat.lt_of_lt_of_le B4.lt hb67)
  have ne_b6_b63 : NE b6 b63 := NE.mk (Nat.lt_of_lt_of_le B9.lt hb67)
  have ap_Q52_b63 : Apart Q52 b63 := hQ55.apart hb67
  have ne_b19_b63 : NE b19 b63 := NE.mk (Nat.lt_of_lt_of_le B22.lt hb67)
  have g_b63 := Nat.le_trans hF.size hb67
  replace HL := HL.new hN65
  replace OU := OU.new hN65
  replace B4 := B4.new hN65
  replace B9 := B9.new hN65
  replace hQ55 := hQ55.new hN65
  replace B22 := B22.new hN65
  replace hF := hF.trNew hN65
  refine fx_storeS sz36 rfl rfl rfl (fr.ev rfl) (fr.ev rfl) (msgE.all _) B66 (msgE.size _) (msgE.size _) fun w68 hO69 hBq => ?_
  replace HL := HL.only hO69 (ne1P ap_FpL_b63)
  replace OU := OU.only hO69 (Apart.ne1 ap_MU_b63)
  replace B4 := B4.only hO69 (by first | exact ne_b1_b63 | exact ne_b63_b1.symm | (show ¬ b1 = b63; omega))
  replace B9 := B9.only hO69 (by first | exact ne_b6_b63 | exact ne_b63_b6.symm | (show ¬ b6 = b63; omega))
  replace hQ55 := hQ55.only hO69 (Apart.ne1 ap_Q52_b63)
  replace B22 := B22.only hO69 (by first | exact ne_b19_b63 | exact ne_b63_b19.symm | (show ¬ b19 = b63; omega))
  replace hF := hF.loc hO69 (.inr g_b63)
  replace B66 := hBq
  clear hBq
  refine wpList_nil ?_
  refine fx_next ?_
  refine wp_seq ?_
  refine wp_region_lit ?_
  refine fx_val (v := .pointer (some ⟨b19, 10, none⟩)) fr rfl rfl (by decide) (x_fieldAddr fo42_7 rfl (fr.ev rfl) rfl) ?_
  clear fr a; intro a fr
  refine fx_val (v := .slice Q52 ((entOf EL n.toNat).q.length) qc53) fr rfl rfl (by decide) (x_load1 pl23 rfl (fr.ev rfl) (B22.cell 10 rfl)) ?_
  clear fr a; intro a fr
  refine fx_val (v := .slice (cutA Q52 qc53 1 20) (((entOf EL n.toNat).q.length) - 1) (qc53 - 1)) fr rfl rfl (by decide) (x_slice_from Try.underlying23 sz36 rfl (fr.ev rfl) rfl (by omega)) ?_
  clear fr a; intro a fr
  refine fx_append (E := msgE) (l := []) (l' := ((entOf EL n.toNat).q).drop 1) elMsg fr rfl rfl (by decide) rfl rfl (fr.ev rfl) (by first | rfl | (simp; done) | (simp; omega)) (by first | rfl | (simp; done) | (simp; omega)) Own.nil ((hQ55).drop 1 (by omega)) (by first | omega | (simp only [List.length_append, List.length_cons, List.length_nil, List.length_drop, List.length_map]; omega) | (simp; omega)) (by first | (unfold maxLen; done) | (unfold maxLen; first | omega | (simp only [List.length_append, List.length_cons, List.length_nil]; omega) | (simp; done) | (simp; omega))) ?_
  clear fr a
  intro A70 cap71 w72 O73 hO74 mv75 a fr
  have ap2_A70_FpL : ∀ k, inA A70 k → FpL k → False := moved_apart2P mv75 (fun k h _ => apart_none k h) fun _ hg => HL.lt hg
  have ap2_A70_MU : Apart2 A70 MU := moved_apart2 mv75 (fun k h _ => apart_none k h) fun _ hg => OU.lt hg
  have ap_A70_b1 : Apart A70 b1 := moved_apart mv75 (apart_none b1) B4.lt
  have ap_A70_b6 : Apart A70 b6 := moved_apart mv75 (apart_none b6) B9.lt
  have ap2_A70_Q52 : Apart2 A70 Q52 := moved_apart2 mv75 (fun k h _ => apart_none k h) fun _ hg => hQ55.lt hg
  have ap_A70_b19 : Apart A70 b19 := moved_apart mv75 (apart_none b19) B22.lt
  have ap_A70_b63 : Apart A70 b63 := moved_apart mv75 (apart_none b63) B66.lt
  have gA_A70 := gA_moved hF mv75 gA_none
  have gN_A70 := fun g (hg : inA A70 g) => (mv75 g hg).elim (fun h => absurd h (apart_none g)) (fun h => Nat.le_trans hF.size h)
  replace hO74 := only_none hO74
  replace HL := HL.new hO74
  replace OU := OU.new hO74
  replace B4 := B4.new hO74
  replace B9 := B9.new hO74
  replace hQ55 := hQ55.new hO74
  replace B22 := B22.new hO74
  replace B66 := B66.new hO74
  replace hF := hF.trNew hO74
  simp only [List.nil_append] at fr O73
  refine fx_val (v := .pointer (some ⟨b19, 10, none⟩)) fr rfl rfl (by decide) (x_fieldAddr fo42_7 rfl (fr.ev rfl) rfl) ?_
  clear fr a; intro a fr
  refine fx_store1 sz23 rfl rfl rfl (fr.ev rfl) (fr.ev rfl) rfl B22 (show 10 < 11 by decide) (cs' := entA (Ent.mk ((entOf EL n.toNat).o) ((entOf EL n.toNat).sh) ((entOf EL n.toNat).busy) ((entOf EL n.toNat).asks) ((entOf EL n.toNat).kind) ((entOf EL n.toNat).waits) ((entOf EL n.toNat).told) (((entOf EL n.toNat).q).drop 1)) (.slice A70 ((((entOf EL n.toNat).q).drop 1).length) cap71)) rfl fun w76 hO77 hBq => ?_
  replace HL := HL.only hO77 (ne1P ap_FpL_b19)
  replace OU := OU.only hO77 (Apart.ne1 ap_MU_b19)
  replace B4 := B4.only hO77 (by first | exact ne_b1_b19 | exact ne_b19_b1.symm | (show ¬ b1 = b19; omega))
  replace B9 := B9.only hO77 (by first | exact ne_b6_b19 | exact ne_b19_b6.symm | (show ¬ b6 = b19; omega))
  replace hQ55 := hQ55.only hO77 (Apart.ne1 ap_Q52_b19)
  replace B66 := B66.only hO77 (by first | exact ne_b63_b19 | exact ne_b19_b63.symm | (show ¬ b63 = b19; omega))
  replace O73 := O73.only hO77 (Apart.ne1 ap_A70_b19)
  replace hF := hF.loc hO77 (.inr g_b19)
  replace B22 := hBq
  clear hBq
  refine wpList_nil ?_
  refine fx_next ?_
  refine wp_seq ?_
  refine fx_heldT (n := 11) (k := 11) (fun w => RefAt w FpL AL capL BL cbL (HD.mk bsL EL) XL ∧ Own msgE w MU mcU out9 ∧ Blk w b1 28 (#[.slice AL bsL.length capL, .slice BL EL.length cbL]) ∧ Blk w b6 28 (#[.slice none 0 0, .slice none 0 0]) ∧ View msgE w Q52 qc53 ((entOf EL n.toNat).q) ∧ Blk w b63 36 (msgE.arr (((entOf EL n.toNat).q).getD 0 msg0)) ∧ Own msgE w A70 cap71 (((entOf EL n.toNat).q).drop 1) ∧ Blk w b19 42 (entA (Ent.mk ((entOf EL n.toNat).o) ((entOf EL n.toNat).sh) ((entOf EL n.toNat).busy) ((entOf EL n.toNat).asks) ((entOf EL n.toNat).kind) ((entOf EL n.toNat).waits) ((entOf EL n.toNat).told) (((entOf EL n.toNat).q).drop 1)) (.slice A70 ((((entOf EL n.toNat).q).drop 1).length) cap71)) ∧ True) (by kernel_rfl) (by kernel_rfl) rfl ?_
  intro w78 hN79
  replace HL := HL.new hN79
  replace OU := OU.new hN79
  replace B4 := B4.new hN79
  replace B9 := B9.new hN79
  replace hQ55 := hQ55.new hN79
  replace B66 := B66.new hN79
  replace O73 := O73.new hN79
  replace B22 := B22.new hN79
  replace hF := hF.trNew hN79
  refine fx_take (i := 0) (v := .agg (#[.slice AL bsL.length capL, .slice BL EL.length cbL])) fr rfl (by kernel_rfl) rfl rfl (by decide) (fun _ _ _ h => h) (fun _ ⟨HL, OU, B4, B9, hQ55, B66, O73, B22, _⟩ => x_loadS ag28 rfl (fr.ev rfl) rfl B4.range) ⟨HL, OU, B4, B9, hQ55, B66, O73, B22, trivial⟩ ?_
  clear fr a; intro a fr
  refine fx_take (i := 1) (v := .int .u32 n) fr rfl (by kernel_rfl) rfl rfl (by decide) (fun _ _ _ h => h) (fun _ ⟨HL, OU, B4, B9, hQ55, B66, O73, B22, _⟩ => x_move rfl (fr.ev rfl)) ⟨HL, OU, B4, B9, hQ55, B66, O73, B22, trivial⟩ ?_
  clear fr a; intro a fr
  refine fx_take (i := 2) (v := .agg (entA (Ent.mk ((entOf EL n.toNat).o) ((entOf EL n.toNat).sh) ((entOf EL n.toNat).busy) ((entOf EL n.toNat).asks) ((entOf EL n.toNat).kind) ((entOf EL n.toNat).waits) ((entOf EL n.toNat).told) (((entOf EL n.toNat).q).drop 1)) (.slice A70 ((((entOf EL n.toNat).q).drop 1).length) cap71))) fr rfl (by kernel_rfl) rfl rfl (by decide) (fun _ _ _ h => h) (fun _ ⟨HL, OU, B4, B9, hQ55, B66, O73, B22, _⟩ => x_loadS ag42 rfl (fr.ev rfl) rfl B22.range) ⟨HL, OU, B4, B9, hQ55, B66, O73, B22, trivial⟩ ?_
  clear fr a; intro a fr
  refine fx_take (i := 4) (v := .agg (msgE.arr (((entOf EL n.toNat).q).getD 0 msg0))) fr rfl (by kernel_rfl) rfl rfl (by decide) (fun _ _ _ h => h) (fun _ ⟨HL, OU, B4, B9, hQ55, B66, O73, B22, _⟩ => x_loadE (E := msgE) ag36 rfl rfl (fr.ev rfl) (B66.rangeE msgE)) ⟨HL, OU, B4, B9, hQ55, B66, O73, B22, trivial⟩ ?_
  clear fr a; intro a fr
  refine fx_two (i := 3) (j := 9) (by kernel_rfl) (fx_op rfl ?_) (fx_op rfl ?_)
  ·skip
   refine fx_call fr rfl rfl (by decide) (x_call (vs := [.agg (#[.slice AL bsL.length capL, .slice BL EL.length cbL]), .int .u32 n, .agg (entA (Ent.mk ((entOf EL n.toNat).o) ((entOf EL n.toNat).sh) ((entOf EL n.toNat).busy) ((entOf EL n.toNat).asks) ((entOf EL n.toNat).kind) ((entOf EL n.toNat).waits) ((entOf EL n.toNat).told) (((entOf EL n.toNat).q).drop 1)) (.slice A70 ((((entOf EL n.toNat).q).drop 1).length) cap71))]) rfl rfl ⟨(fr.ev rfl), (fr.ev rfl), (fr.ev rfl), trivial⟩ Try.func40 nm40 rfl) (rwith_r n hn (Ent.mk ((entOf EL n.toNat).o) ((entOf EL n.toNat).sh) ((entOf EL n.toNat).busy) ((entOf EL n.toNat).asks) ((entOf EL n.toNat).kind) ((entOf EL n.toNat).waits) ((entOf EL n.toNat).told) (((entOf EL n.toNat).q).drop 1)) A70 cap71 HL (by omega) (by omega) O73.view) ?_
   clear fr a
   rintro v w85 ⟨B80, cb81, FpR82, rfl, H83, mv84, hN86⟩ a fr
   have mQ_A70 : ∀ g, inA A70 g → FpR g ∨ w.heap.size ≤ g := fun g hg => .inr (gN_A70 g hg)
   have ap2_FpR82_MU : ∀ k, FpR82 k → inA MU k → False := moved_apart2P mv84 (fun k hk => (fun h => h.elim (ap2_FpL_MU k) (ap2_A70_MU k)) hk) fun _ hg => OU.lt hg
   have ap_FpR82_b1 : ¬ FpR82 b1 := moved_apartP mv84 (fun h => h.elim ap_FpL_b1 ap_A70_b1) B4.lt
   have ap_FpR82_b6 : ¬ FpR82 b6 := moved_apartP mv84 (fun h => h.elim ap_FpL_b6 ap_A70_b6) B9.lt
   have ap_FpR82_b63 : ¬ FpR82 b63 := moved_apartP mv84 (fun h => h.elim ap_FpL_b63 ap_A70_b63) B66.lt
   have ap_FpR82_b19 : ¬ FpR82 b19 := moved_apartP mv84 (fun h => h.elim ap_FpL_b19 ap_A70_b19) B22.lt
   have mF_FpR82 : ∀ g, FpR82 g → FpR g ∨ w.heap.size ≤ g := fun g hg => (mv84 g hg).elim (fun h => h.elim (mF_FpL g) (mQ_A70 g)) (fun h => .inr (Nat.le_trans hF.size h))
   replace HL := HL.new hN86
   replace OU := OU.new hN86
   replace B4 := B4.new hN86
   replace B9 := B9.new hN86
   replace hQ55 := hQ55.new hN86
   replace B66 := B66.new hN86
   replace O73 := O73.new hN86
   replace B22 := B22.new hN86
   replace hF := hF.trNew hN86
   have hel87 : (EL.set n.toNat (Ent.mk ((entOf EL n.toNat).o) ((entOf EL n.toNat).sh) ((entOf EL n.toNat).busy) ((entOf EL n.toNat).asks) ((entOf EL n.toNat).kind) ((entOf EL n.toNat).waits) ((entOf EL n.toNat).told) (((entOf EL n.toNat).q).drop 1))).length = EL.length := List.length_set
   have hxl88 := H83.len
   simp only [List.length_set] at hxl88
   refine wpList_nil ?_
   refine ⟨⟨HL, OU, B4, B9, hQ55, B66, O73, B22, trivial⟩, ?_⟩
   refine fx_two (i := 5) (j := 9) (by kernel_rfl) (fx_op rfl ?_) (fx_op rfl ?_)
   ·skip
    refine fx_call fr rfl rfl (by decide) (x_call (vs := [.agg (#[.slice AL bsL.length capL, .slice B80 ((EL.set n.toNat (Ent.mk ((entOf EL n.toNat).o) ((entOf EL n.toNat).sh) ((entOf EL n.toNat).busy) ((entOf EL n.toNat).asks) ((entOf EL n.toNat).kind) ((entOf EL n.toNat).waits) ((entOf EL n.toNat).told) (((entOf EL n.toNat).q).drop 1))).length) cb81]), .agg (msgE.arr (((entOf EL n.toNat).q).getD 0 msg0))]) rfl rfl ⟨(fr.ev rfl), (fr.ev rfl), trivial⟩ Try.func41 nm41 rfl) (rbegin_l (((entOf EL n.toNat).q).getD 0 msg0) n H83 hq1.2.2.2 (by simp only [List.length_set]; omega) (by simp only [List.length_set]; omega) (by omega) hq1.2.2.1 ⟨hq1.1, hq1.2.1⟩) ?_
    clear fr a
    rintro v w102 ⟨A89, cap90, B91, cb92, FpR93, M94, mc95, rfl, ⟨X96, H97⟩, O98, mv99, hM100, hap101, hN103⟩ a fr
    have he104 : entOf (EL.set n.toNat (Ent.mk ((entOf EL n.toNat).o) ((entOf EL n.toNat).sh) ((entOf EL n.toNat).busy) ((entOf EL n.toNat).asks) ((entOf EL n.toNat).kind) ((entOf EL n.toNat).waits) ((entOf EL n.toNat).told) (((entOf EL n.toNat).q).drop 1))) n.toNat = (Ent.mk ((entOf EL n.toNat).o) ((entOf EL n.toNat).sh) ((entOf EL n.toNat).busy) ((entOf EL n.toNat).asks) ((entOf EL n.toNat).kind) ((entOf EL n.toNat).waits) ((entOf EL n.toNat).told) (((entOf EL n.toNat).q).drop 1)) := by rw [entOf_set (by omega), if_pos rfl]
    rw [he104] at fr H97 O98
    have ap2_FpR93_MU : ∀ k, FpR93 k → inA MU k → False := moved_apart2P mv99 ap2_FpR82_MU fun _ hg => OU.lt hg
    have ap_FpR93_b1 : ¬ FpR93 b1 := moved_apartP mv99 ap_FpR82_b1 B4.lt
    have ap_FpR93_b6 : ¬ FpR93 b6 := moved_apartP mv99 ap_FpR82_b6 B9.lt
    have ap_FpR93_b63 : ¬ FpR93 b63 := moved_apartP mv99 ap_FpR82_b63 B66.lt
    have ap_FpR93_b19 : ¬ FpR93 b19 := moved_apartP mv99 ap_FpR82_b19 B22.lt
    have mF_FpR93 : ∀ g, FpR93 g → FpR g ∨ w.heap.size ≤ g := fun g hg => (mv99 g hg).elim (mF_FpR82 g) (fun h => .inr (Nat.le_trans hF.size h))
    have ap2_FpL_M94 : ∀ k, FpL k → inA M94 k → False := symP (new_apart2P hM100 fun _ hg => HL.lt hg)
    have ap2_MU_M94 : Apart2 MU M94 := (new_apart2 hM100 fun _ hg => OU.lt hg).symm
    have ap_M94_b1 : Apart M94 b1 := new_apart hM100 B4.lt
    have ap_M94_b6 : Apart M94 b6 := new_apart hM100 B9.lt
    have ap2_Q52_M94 : Apart2 Q52 M94 := (new_apart2 hM100 fun _ hg => hQ55.lt hg).symm
    have ap_M94_b63 : Apart M94 b63 := new_apart hM100 B66.lt
    have ap2_A70_M94 : Apart2 A70 M94 := (new_apart2 hM100 fun _ hg => O73.lt hg).symm
    have ap_M94_b19 : Apart M94 b19 := new_apart hM100 B22.lt
    have ap2_FpR82_M94 : ∀ k, FpR82 k → inA M94 k → False := symP (new_apart2P hM100 fun _ hg => H83.lt hg)
    have gA_M94 := gA_new hF hM100
    have gN_M94 := fun g (hg : inA M94 g) => Nat.le_trans hF.size (hM100 g hg)
    have ap2_FpR93_M94 := hap101
    replace HL := HL.new hN103
    replace OU := OU.new hN103
    replace B4 := B4.new hN103
    replace B9 := B9.new hN103
    replace hQ55 := hQ55.new hN103
    replace B66 := B66.new hN103
    replace O73 := O73.new hN103
    replace B22 := B22.new hN103
    replace H83 := H83.new hN103
    replace hF := hF.trNew hN103
    have hbn105 := begin_len (bs := bsL) (d := (Ent.mk ((entOf EL n.toNat).o) ((entOf EL n.toNat).sh) ((entOf EL n.toNat).busy) ((entOf EL n.toNat).asks) ((entOf EL n.toNat).kind) ((entOf EL n.toNat).waits) ((entOf EL n.toNat).told) (((entOf EL n.toNat).q).drop 1))) (m := (((entOf EL n.toNat).q).getD 0 msg0))
    have hbs106 := begin_bs (bs := bsL) (d := (Ent.mk ((entOf EL n.toNat).o) ((entOf EL n.toNat).sh) ((entOf EL n.toNat).busy) ((entOf EL n.toNat).asks) ((entOf EL n.toNat).kind) ((entOf EL n.toNat).waits) ((entOf EL n.toNat).told) (((entOf EL n.toNat).q).drop 1))) (m := (((entOf EL n.toNat).q).getD 0 msg0))
    have hel107 : ((EL.set n.toNat (Ent.mk ((entOf EL n.toNat).o) ((entOf EL n.toNat).sh) ((entOf EL n.toNat).busy) ((entOf EL n.toNat).asks) ((entOf EL n.toNat).kind) ((entOf EL n.toNat).waits) ((entOf EL n.toNat).told) (((entOf EL n.toNat).q).drop 1))).set n.toNat (beginF bsL (Ent.mk ((entOf EL n.toNat).o) ((entOf EL n.toNat).sh) ((entOf EL n.toNat).busy) ((entOf EL n.toNat).asks) ((entOf EL n.toNat).kind) ((entOf EL n.toNat).waits) ((entOf EL n.toNat).told) (((entOf EL n.toNat).q).drop 1)) (((entOf EL n.toNat).q).getD 0 msg0)).1).length = (EL.set n.toNat (Ent.mk ((entOf EL n.toNat).o) ((entOf EL n.toNat).sh) ((entOf EL n.toNat).busy) ((entOf EL n.toNat).asks) ((entOf EL n.toNat).kind) ((entOf EL n.toNat).waits) ((entOf EL n.toNat).told) (((entOf EL n.toNat).q).drop 1))).length := List.length_set
    refine wpList_nil ?_
    refine ⟨⟨HL, OU, B4, B9, hQ55, B66, O73, B22, trivial⟩, ?_⟩
    refine fx_take (i := 6) (v := .tuple #[.agg (#[.slice A89 (((beginF bsL (Ent.mk ((entOf EL n.toNat).o) ((entOf EL n.toNat).sh) ((entOf EL n.toNat).busy) ((entOf EL n.toNat).asks) ((entOf EL n.toNat).kind) ((entOf EL n.toNat).waits) ((entOf EL n.toNat).told) (((entOf EL n.toNat).q).drop 1)) (((entOf EL n.toNat).q).getD 0 msg0)).2.1).length) cap90, .slice B91 (((EL.set n.toNat (Ent.mk ((entOf EL n.toNat).o) ((entOf EL n.toNat).sh) ((entOf EL n.toNat).busy) ((entOf EL n.toNat).asks) ((entOf EL n.toNat).kind) ((entOf EL n.toNat).waits) ((entOf EL n.toNat).told) (((entOf EL n.toNat).q).drop 1))).set n.toNat (beginF bsL (Ent.mk ((entOf EL n.toNat).o) ((entOf EL n.toNat).sh) ((entOf EL n.toNat).busy) ((entOf EL n.toNat).asks) ((entOf EL n.toNat).kind) ((entOf EL n.toNat).waits) ((entOf EL n.toNat).told) (((entOf EL n.toNat).q).drop 1)) (((entOf EL n.toNat).q).getD 0 msg0)).1).length) cb92]), .slice M94 ((beginF bsL (Ent.mk ((entOf EL n.toNat).o) ((entOf EL n.toNat).sh) ((entOf EL n.toNat).busy) ((entOf EL n.toNat).asks) ((entOf EL n.toNat).kind) ((entOf EL n.toNat).waits) ((entOf EL n.toNat).told) (((entOf EL n.toNat).q).drop 1)) (((entOf EL n.toNat).q).getD 0 msg0)).2.2.length) mc95]) fr rfl (by kernel_rfl) rfl rfl (by decide) (fun _ _ _ h => h) (fun _ ⟨HL, OU, B4, B9, hQ55, B66, O73, B22, _⟩ => x_move rfl (fr.ev rfl)) ⟨HL, OU, B4, B9, hQ55, B66, O73, B22, trivial⟩ ?_
    clear fr a; intro a fr
    refine fx_take (i := 7) (v := .agg (#[.slice A89 (((beginF bsL (Ent.mk ((entOf EL n.toNat).o) ((entOf EL n.toNat).sh) ((entOf EL n.toNat).busy) ((entOf EL n.toNat).asks) ((entOf EL n.toNat).kind) ((entOf EL n.toNat).waits) ((entOf EL n.toNat).told) (((entOf EL n.toNat).q).drop 1)) (((entOf EL n.toNat).q).getD 0 msg0)).2.1).length) cap90, .slice B91 (((EL.set n.toNat (Ent.mk ((entOf EL n.toNat).o) ((entOf EL n.toNat).sh) ((entOf EL n.toNat).busy) ((entOf EL n.toNat).asks) ((entOf EL n.toNat).kind) ((entOf EL n.toNat).waits) ((entOf EL n.toNat).told) (((entOf EL n.toNat).q).drop 1))).set n.toNat (beginF bsL (Ent.mk ((entOf EL n.toNat).o) ((entOf EL n.toNat).sh) ((entOf EL n.toNat).busy) ((entOf EL n.toNat).asks) ((entOf EL n.toNat).kind) ((entOf EL n.toNat).waits) ((entOf EL n.toNat).told) (((entOf EL n.toNat).q).drop 1)) (((entOf EL n.toNat).q).getD 0 msg0)).1).length) cb92])) fr rfl (by kernel_rfl) rfl rfl (by decide) (fun _ _ _ h => h) (fun _ ⟨HL, OU, B4, B9, hQ55, B66, O73, B22, _⟩ => x_extract rfl (fr.ev rfl) rfl) ⟨HL, OU, B4, B9, hQ55, B66, O73, B22, trivial⟩ ?_
    clear fr a; intro a fr
    refine fx_take (i := 8) (v := .slice M94 ((beginF bsL (Ent.mk ((entOf EL n.toNat).o) ((entOf EL n.toNat).sh) ((entOf EL n.toNat).busy) ((entOf EL n.toNat).asks) ((entOf EL n.toNat).kind) ((entOf EL n.toNat).waits) ((entOf EL n.toNat).told) (((entOf EL n.toNat).q).drop 1)) (((entOf EL n.toNat).q).getD 0 msg0)).2.2.length) mc95) fr rfl (by kernel_rfl) rfl rfl (by decide) (fun _ _ _ h => h) (fun _ ⟨HL, OU, B4, B9, hQ55, B66, O73, B22, _⟩ => x_extract rfl (fr.ev rfl) rfl) ⟨HL, OU, B4, B9, hQ55, B66, O73, B22, trivial⟩ ?_
    clear fr a; intro a fr
    refine fx_one (i := 9) (by kernel_rfl) (fx_op rfl ?_)
    refine fx_new fr rfl rfl (by decide) (x_alloc (z := .agg (#[.slice none 0 0, .slice none 0 0])) (cs := #[.slice none 0 0, .slice none 0 0]) rfl (by kernel_rfl) rfl) ?_
    clear fr a
    intro b108 w109 hN110 B111 hb112 a fr
    have ap_FpL_b108 : ¬ FpL b108 := HL.apart hb112
    have ap_MU_b108 : Apart MU b108 := OU.apart hb112
    have ne_b1_b108 : NE b1 b108 := NE.mk (Nat.lt_of_lt_of_le B4.lt hb112)
    have ne_b6_b108 : NE b6 b108 := NE.mk (Nat.lt_of_lt_of_le B9.lt hb112)
    have ap_Q52_b108 : Apart Q52 b108 := hQ55.apart hb112
    have ne_b63_b108 : NE b63 b108 := NE.mk (Nat.lt_of_lt_of_le B66.lt hb112)
    have ap_A70_b108 : Apart A70 b108 := O73.apart hb112
    have ne_b19_b108 : NE b19 b108 := NE.mk (Nat.lt_of_lt_of_le B22.lt hb112)
    have ap_FpR82_b108 : ¬ FpR82 b108 := H83.apart hb112
    have ap_FpR93_b108 : ¬ FpR93 b108 := H97.apart hb112
    have ap_M94_b108 : Apart M94 b108 := O98.apart hb112
    have g_b108 := Nat.le_trans hF.size hb112
    replace HL := HL.new hN110
    replace OU := OU.new hN110
    replace B4 := B4.new hN110
    replace B9 := B9.new hN110
    replace hQ55 := hQ55.new hN110
    replace B66 := B66.new hN110
    replace O73 := O73.new hN110
    replace B22 := B22.new hN110
    replace H83 := H83.new hN110
    replace H97 := H97.new hN110
    replace O98 := O98.new hN110
    replace hF := hF.trNew hN110
    refine wpList_nil ?_
    refine ⟨⟨HL, OU, B4, B9, hQ55, B66, O73, B22, trivial⟩, ?_⟩
    refine fx_one (i := 10) (by kernel_rfl) (fx_op rfl ?_)
    refine fx_storeS sz28 rfl rfl rfl (fr.ev rfl) (fr.ev rfl) (by simp [Value.oneCell']) B111 rfl rfl fun w113 hO114 hBq => ?_
    replace HL := HL.only hO114 (ne1P ap_FpL_b108)
    replace OU := OU.only hO114 (Apart.ne1 ap_MU_b108)
    replace B4 := B4.only hO114 (by first | exact ne_b1_b108 | exact ne_b108_b1.symm | (show ¬ b1 = b108; omega))
    replace B9 := B9.only hO114 (by first | exact ne_b6_b108 | exact ne_b108_b6.symm | (show ¬ b6 = b108; omega))
    replace hQ55 := hQ55.only hO114 (Apart.ne1 ap_Q52_b108)
    replace B66 := B66.only hO114 (by first | exact ne_b63_b108 | exact ne_b108_b63.symm | (show ¬ b63 = b108; omega))
    replace O73 := O73.only hO114 (Apart.ne1 ap_A70_b108)
    replace B22 := B22.only hO114 (by first | exact ne_b19_b108 | exact ne_b108_b19.symm | (show ¬ b19 = b108; omega))
    replace H83 := H83.only hO114 (ne1P ap_FpR82_b108)
    replace H97 := H97.only hO114 (ne1P ap_FpR93_b108)
    replace O98 := O98.only hO114 (Apart.ne1 ap_M94_b108)
    replace hF := hF.loc hO114 (.inr g_b108)
    replace B111 := hBq
    clear hBq
    refine wpList_nil ?_
    refine ⟨⟨HL, OU, B4, B9, hQ55, B66, O73, B22, trivial⟩, ?_⟩
    refine fx_hdone (by kernel_rfl) ?_
    refine fx_tail ?_
    refine fx_val (v := .slice M94 ((beginF bsL (Ent.mk ((entOf EL n.toNat).o) ((entOf EL n.toNat).sh) ((entOf EL n.toNat).busy) ((entOf EL n.toNat).asks) ((entOf EL n.toNat).kind) ((entOf EL n.toNat).waits) ((entOf EL n.toNat).told) (((entOf EL n.toNat).q).drop 1)) (((entOf EL n.toNat).q).getD 0 msg0)).2.2.length) mc95) fr rfl rfl (by decide) (x_assign rfl (fr.ev rfl)) ?_
    clear fr a; intro a fr
    refine wpList_nil ?_
    refine fx_next ?_
    refine wp_seq ?_
    refine wp_region_lit ?_
    refine fx_val (v := .agg (#[.slice A89 (((beginF bsL (Ent.mk ((entOf EL n.toNat).o) ((entOf EL n.toNat).sh) ((entOf EL n.toNat).busy) ((entOf EL n.toNat).asks) ((entOf EL n.toNat).kind) ((entOf EL n.toNat).waits) ((entOf EL n.toNat).told) (((entOf EL n.toNat).q).drop 1)) (((entOf EL n.toNat).q).getD 0 msg0)).2.1).length) cap90, .slice B91 (((EL.set n.toNat (Ent.mk ((entOf EL n.toNat).o) ((entOf EL n.toNat).sh) ((entOf EL n.toNat).busy) ((entOf EL n.toNat).asks) ((entOf EL n.toNat).kind) ((entOf EL n.toNat).waits) ((entOf EL n.toNat).told) (((entOf EL n.toNat).q).drop 1))).set n.toNat (beginF bsL (Ent.mk ((entOf EL n.toNat).o) ((entOf EL n.toNat).sh) ((entOf EL n.toNat).busy) ((entOf EL n.toNat).asks) ((entOf EL n.toNat).kind) ((entOf EL n.toNat).waits) ((entOf EL n.toNat).told) (((entOf EL n.toNat).q).drop 1)) (((entOf EL n.toNat).q).getD 0 msg0)).1).length) cb92])) fr rfl rfl (by decide) (x_loadS ag28 rfl (fr.ev rfl) rfl B111.range) ?_
    clear fr a; intro a fr
    refine fx_storeS sz28 rfl rfl rfl (fr.ev rfl) (fr.ev rfl) (by simp [Value.oneCell']) B4 rfl rfl fun w115 hO116 hBq => ?_
    replace HL := HL.only hO116 (ne1P ap_FpL_b1)
    replace OU := OU.only hO116 (Apart.ne1 ap_MU_b1)
    replace B9 := B9.only hO116 (by first | exact ne_b6_b1 | exact ne_b1_b6.symm | (show ¬ b6 = b1; omega))
    replace hQ55 := hQ55.only hO116 (Apart.ne1 ap_Q52_b1)
    replace B66 := B66.only hO116 (by first | exact ne_b63_b1 | exact ne_b1_b63.symm | (show ¬ b63 = b1; omega))
    replace O73 := O73.only hO116 (Apart.ne1 ap_A70_b1)
    replace B22 := B22.only hO116 (by first | exact ne_b19_b1 | exact ne_b1_b19.symm | (show ¬ b19 = b1; omega))
    replace H83 := H83.only hO116 (ne1P ap_FpR82_b1)
    replace H97 := H97.only hO116 (ne1P ap_FpR93_b1)
    replace O98 := O98.only hO116 (Apart.ne1 ap_M94_b1)
    replace B111 := B111.only hO116 (by first | exact ne_b108_b1 | exact ne_b1_b108.symm | (show ¬ b108 = b1; omega))
    replace hF := hF.loc hO116 (.inr g_b1)
    replace B4 := hBq
    clear hBq
    refine wpList_nil ?_
    refine fx_next ?_
    refine wp_region_lit ?_
    refine fx_val (v := .slice MU out9.length mcU) fr rfl rfl (by decide) (x_move rfl (fr.ev rfl)) ?_
    clear fr a; intro a fr
    refine fx_val (v := .slice M94 ((beginF bsL (Ent.mk ((entOf EL n.toNat).o) ((entOf EL n.toNat).sh) ((entOf EL n.toNat).busy) ((entOf EL n.toNat).asks) ((entOf EL n.toNat).kind) ((entOf EL n.toNat).waits) ((entOf EL n.toNat).told) (((entOf EL n.toNat).q).drop 1)) (((entOf EL n.toNat).q).getD 0 msg0)).2.2.length) mc95) fr rfl rfl (by decide) (x_move rfl (fr.ev rfl)) ?_
    clear fr a; intro a fr
    refine fx_append (E := msgE) (l := out9) (l' := (beginF bsL (Ent.mk ((entOf EL n.toNat).o) ((entOf EL n.toNat).sh) ((entOf EL n.toNat).busy) ((entOf EL n.toNat).asks) ((entOf EL n.toNat).kind) ((entOf EL n.toNat).waits) ((entOf EL n.toNat).told) (((entOf EL n.toNat).q).drop 1)) (((entOf EL n.toNat).q).getD 0 msg0)).2.2) elMsg fr rfl rfl (by decide) rfl (fr.ev rfl) (fr.ev rfl) (by first | rfl | (simp; done) | (simp; omega)) (by first | rfl | (simp; done) | (simp; omega)) OU O98.view (by first | omega | (simp only [List.length_append, List.length_cons, List.length_nil, List.length_drop, List.length_map]; omega) | (simp; omega)) (by first | (unfold maxLen; done) | (unfold maxLen; first | omega | (simp only [List.length_append, List.length_cons, List.length_nil]; omega) | (simp; done) | (simp; omega))) ?_
    clear fr a
    intro A117 cap118 w119 O120 hO121 mv122 a fr
    have ap2_A117_FpL : ∀ k, inA A117 k → FpL k → False := moved_apart2P mv122 (symP ap2_FpL_MU) fun _ hg => HL.lt hg
    have ap_A117_b6 : Apart A117 b6 := moved_apart mv122 ap_MU_b6 B9.lt
    have ap2_A117_Q52 : Apart2 A117 Q52 := moved_apart2 mv122 ap2_Q52_MU.symm fun _ hg => hQ55.lt hg
    have ap_A117_b63 : Apart A117 b63 := moved_apart mv122 ap_MU_b63 B66.lt
    have ap2_A117_A70 : Apart2 A117 A70 := moved_apart2 mv122 ap2_A70_MU.symm fun _ hg => O73.lt hg
    have ap_A117_b19 : Apart A117 b19 := moved_apart mv122 ap_MU_b19 B22.lt
    have ap2_A117_FpR82 : ∀ k, inA A117 k → FpR82 k → False := moved_apart2P mv122 (symP ap2_FpR82_MU) fun _ hg => H83.lt hg
    have ap2_A117_FpR93 : ∀ k, inA A117 k → FpR93 k → False := moved_apart2P mv122 (symP ap2_FpR93_MU) fun _ hg => H97.lt hg
    have ap2_A117_M94 : Apart2 A117 M94 := moved_apart2 mv122 ap2_MU_M94 fun _ hg => O98.lt hg
    have ap_A117_b108 : Apart A117 b108 := moved_apart mv122 ap_MU_b108 B111.lt
    have ap_A117_b1 : Apart A117 b1 := moved_apart mv122 ap_MU_b1 B4.lt
    have gA_A117 := gA_moved hF mv122 gA_MU
    replace HL := HL.only hO121 (fun g h1 h2 => ap2_FpL_MU g h1 h2)
    replace B9 := B9.only hO121 ap_MU_b6
    replace hQ55 := hQ55.only hO121 (fun g h1 h2 => ap2_Q52_MU g h1 h2)
    replace B66 := B66.only hO121 ap_MU_b63
    replace O73 := O73.only hO121 (fun g h1 h2 => ap2_A70_MU g h1 h2)
    replace B22 := B22.only hO121 ap_MU_b19
    replace H83 := H83.only hO121 (fun g h1 h2 => ap2_FpR82_MU g h1 h2)
    replace H97 := H97.only hO121 (fun g h1 h2 => ap2_FpR93_MU g h1 h2)
    replace O98 := O98.only hO121 (fun g h1 h2 => ap2_MU_M94.symm g h1 h2)
    replace B111 := B111.only hO121 ap_MU_b108
    replace B4 := B4.only hO121 ap_MU_b1
    replace hF := hF.locA hO121 gA_MU
    clear OU
    refine fx_val (v := .slice A117 ((out9 ++ ((beginF bsL (Ent.mk ((entOf EL n.toNat).o) ((entOf EL n.toNat).sh) ((entOf EL n.toNat).busy) ((entOf EL n.toNat).asks) ((entOf EL n.toNat).kind) ((entOf EL n.toNat).waits) ((entOf EL n.toNat).told) (((entOf EL n.toNat).q).drop 1)) (((entOf EL n.toNat).q).getD 0 msg0)).2.2)).length) cap118) fr rfl rfl (by decide) (x_assign rfl (fr.ev rfl)) ?_
    clear fr a; intro a fr
    refine wpList_nil ?_
    refine fx_blk ?_
    refine fx_next ?_
    have hbl := begin_len (bs := bsL) (d := { (entOf EL n.toNat) with q := (entOf EL n.toNat).q.drop 1 }) (m := (entOf EL n.toNat).q.getD 0 msg0)
    have hbq := begin_qn (bs := bsL) (d := (entOf EL n.toNat)) (m := (entOf EL n.toNat).q.getD 0 msg0)
    have hnew : entOf ((EL.set n.toNat (Ent.mk ((entOf EL n.toNat).o) ((entOf EL n.toNat).sh) ((entOf EL n.toNat).busy) ((entOf EL n.toNat).asks) ((entOf EL n.toNat).kind) ((entOf EL n.toNat).waits) ((entOf EL n.toNat).told) (((entOf EL n.toNat).q).drop 1))).set n.toNat (beginF bsL (Ent.mk ((entOf EL n.toNat).o) ((entOf EL n.toNat).sh) ((entOf EL n.toNat).busy) ((entOf EL n.toNat).asks) ((entOf EL n.toNat).kind) ((entOf EL n.toNat).waits) ((entOf EL n.toNat).told) (((entOf EL n.toNat).q).drop 1)) (((entOf EL n.toNat).q).getD 0 msg0)).1) n.toNat = (beginF bsL (Ent.mk ((entOf EL n.toNat).o) ((entOf EL n.toNat).sh) ((entOf EL n.toNat).busy) ((entOf EL n.toNat).asks) ((entOf EL n.toNat).kind) ((entOf EL n.toNat).waits) ((entOf EL n.toNat).told) (((entOf EL n.toNat).q).drop 1)) (((entOf EL n.toNat).q).getD 0 msg0)).1 := by rw [entOf_set (by simp only [List.length_set]; omega), if_pos rfl]
    change (beginF bsL (Ent.mk ((entOf EL n.toNat).o) ((entOf EL n.toNat).sh) ((entOf EL n.toNat).busy) ((entOf EL n.toNat).asks) ((entOf EL n.toNat).kind) ((entOf EL n.toNat).waits) ((entOf EL n.toNat).told) (((entOf EL n.toNat).q).drop 1)) (((entOf EL n.toNat).q).getD 0 msg0)).2.2.length ≤ 4 at hbl
    change (beginF bsL (Ent.mk ((entOf EL n.toNat).o) ((entOf EL n.toNat).sh) ((entOf EL n.toNat).busy) ((entOf EL n.toNat).asks) ((entOf EL n.toNat).kind) ((entOf EL n.toNat).waits) ((entOf EL n.toNat).told) (((entOf EL n.toNat).q).drop 1)) (((entOf EL n.toNat).q).getD 0 msg0)).1.q.length = _ at hbq
    exact ⟨_, (by rw [hnew]; omega), FpR93, A89, cap90, B91, cb92, ((beginF bsL (Ent.mk ((entOf EL n.toNat).o) ((entOf EL n.toNat).sh) ((entOf EL n.toNat).busy) ((entOf EL n.toNat).asks) ((entOf EL n.toNat).kind) ((entOf EL n.toNat).waits) ((entOf EL n.toNat).told) (((entOf EL n.toNat).q).drop 1)) (((entOf EL n.toNat).q).getD 0 msg0)).2.1), ((EL.set n.toNat (Ent.mk ((entOf EL n.toNat).o) ((entOf EL n.toNat).sh) ((entOf EL n.toNat).busy) ((entOf EL n.toNat).asks) ((entOf EL n.toNat).kind) ((entOf EL n.toNat).waits) ((entOf EL n.toNat).told) (((entOf EL n.toNat).q).drop 1))).set n.toNat (beginF bsL (Ent.mk ((entOf EL n.toNat).o) ((entOf EL n.toNat).sh) ((entOf EL n.toNat).busy) ((entOf EL n.toNat).asks) ((entOf EL n.toNat).kind) ((entOf EL n.toNat).waits) ((entOf EL n.toNat).told) (((entOf EL n.toNat).q).drop 1)) (((entOf EL n.toNat).q).getD 0 msg0)).1), X96, (Ent.mk ((entOf EL n.toNat).o) ((entOf EL n.toNat).sh) ((entOf EL n.toNat).busy) ((entOf EL n.toNat).asks) ((entOf EL n.toNat).kind) ((entOf EL n.toNat).waits) ((entOf EL n.toNat).told) (((entOf EL n.toNat).q).drop 1)), A70, cap71, A117, cap118, (out9 ++ ((beginF bsL (Ent.mk ((entOf EL n.toNat).o) ((entOf EL n.toNat).sh) ((entOf EL n.toNat).busy) ((entOf EL n.toNat).asks) ((entOf EL n.toNat).kind) ((entOf EL n.toNat).waits) ((entOf EL n.toNat).told) (((entOf EL n.toNat).q).drop 1)) (((entOf EL n.toNat).q).getD 0 msg0)).2.2)), rfl, fr.sub ⟨rfl, rfl, rfl, rfl, rfl, trivial⟩, hF, H97, O120, B4, B22, B9, (by rw [hnew]; exact (drain_step hgo.1 hgo2 _).trans hp0), (by rw [hnew]; exact fun x hx => hp1 x (begin_ql hx)), (by rw [hnew, List.length_append]; omega), (by simp only [List.length_set]; exact hp3), (begin_bs.trans hp4), (fun d => by rw [List.set_set, List.set_set]; exact hp5 d), mF_FpR93, (symP ap2_A117_FpR93), ap_FpR93_b1, ap_FpR93_b19, ap_FpR93_b6, ap_A117_b1, ap_A117_b19, ap_A117_b6, gA_A117⟩
   ·skip
    refine fx_new fr rfl rfl (by decide) (x_alloc (z := .agg (#[.slice none 0 0, .slice none 0 0])) (cs := #[.slice none 0 0, .slice none 0 0]) rfl (by kernel_rfl) rfl) ?_
    clear fr a
    intro b123 w124 hN125 B126 hb127 a fr
    have ap_FpL_b123 : ¬ FpL b123 := HL.apart hb127
    have ap_MU_b123 : Apart MU b123 := OU.apart hb127
    have ne_b1_b123 : NE b1 b123 := NE.mk (Nat.lt_of_lt_of_le B4.lt hb127)
    have ne_b6_b123 : NE b6 b123 := NE.mk (Nat.lt_of_lt_of_le B9.lt hb127)
    have ap_Q52_b123 : Apart Q52 b123 := hQ55.apart hb127
    have ne_b63_b123 : NE b63 b123 := NE.mk (Nat.lt_of_lt_of_le B66.lt hb127)
    have ap_A70_b123 : Apart A70 b123 := O73.apart hb127
    have ne_b19_b123 : NE b19 b123 := NE.mk (Nat.lt_of_lt_of_le B22.lt hb127)
    have ap_FpR82_b123 : ¬ FpR82 b123 := H83.apart hb127
    have g_b123 := Nat.le_trans hF.size hb127
    replace HL := HL.new hN125
    replace OU := OU.new hN125
    replace B4 := B4.new hN125
    replace B9 := B9.new hN125
    replace hQ55 := hQ55.new hN125
    replace B66 := B66.new hN125
    replace O73 := O73.new hN125
    replace B22 := B22.new hN125
    replace H83 := H83.new hN125
    replace hF := hF.trNew hN125
    refine wpList_nil ?_
    refine ⟨⟨HL, OU, B4, B9, hQ55, B66, O73, B22, trivial⟩, ?_⟩
    refine fx_one (i := 5) (by kernel_rfl) (fx_op rfl ?_)
    refine fx_call fr rfl rfl (by decide) (x_call (vs := [.agg (#[.slice AL bsL.length capL, .slice B80 ((EL.set n.toNat (Ent.mk ((entOf EL n.toNat).o) ((entOf EL n.toNat).sh) ((entOf EL n.toNat).busy) ((entOf EL n.toNat).asks) ((entOf EL n.toNat).kind) ((entOf EL n.toNat).waits) ((entOf EL n.toNat).told) (((entOf EL n.toNat).q).drop 1))).length) cb81]), .agg (msgE.arr (((entOf EL n.toNat).q).getD 0 msg0))]) rfl rfl ⟨(fr.ev rfl), (fr.ev rfl), trivial⟩ Try.func41 nm41 rfl) (rbegin_l (((entOf EL n.toNat).q).getD 0 msg0) n H83 hq1.2.2.2 (by simp only [List.length_set]; omega) (by simp only [List.length_set]; omega) (by omega) hq1.2.2.1 ⟨hq1.1, hq1.2.1⟩) ?_
    clear fr a
    rintro v w141 ⟨A128, cap129, B130, cb131, FpR132, M133, mc134, rfl, ⟨X135, H136⟩, O137, mv138, hM139, hap140, hN142⟩ a fr
    have he143 : entOf (EL.set n.toNat (Ent.mk ((entOf EL n.toNat).o) ((entOf EL n.toNat).sh) ((entOf EL n.toNat).busy) ((entOf EL n.toNat).asks) ((entOf EL n.toNat).kind) ((entOf EL n.toNat).waits) ((entOf EL n.toNat).told) (((entOf EL n.toNat).q).drop 1))) n.toNat = (Ent.mk ((entOf EL n.toNat).o) ((entOf EL n.toNat).sh) ((entOf EL n.toNat).busy) ((entOf EL n.toNat).asks) ((entOf EL n.toNat).kind) ((entOf EL n.toNat).waits) ((entOf EL n.toNat).told) (((entOf EL n.toNat).q).drop 1)) := by rw [entOf_set (by omega), if_pos rfl]
    rw [he143] at fr H136 O137
    have ap2_FpR132_MU : ∀ k, FpR132 k → inA MU k → False := moved_apart2P mv138 ap2_FpR82_MU fun _ hg => OU.lt hg
    have ap_FpR132_b1 : ¬ FpR132 b1 := moved_apartP mv138 ap_FpR82_b1 B4.lt
    have ap_FpR132_b6 : ¬ FpR132 b6 := moved_apartP mv138 ap_FpR82_b6 B9.lt
    have ap_FpR132_b63 : ¬ FpR132 b63 := moved_apartP mv138 ap_FpR82_b63 B66.lt
    have ap_FpR132_b19 : ¬ FpR132 b19 := moved_apartP mv138 ap_FpR82_b19 B22.lt
    have ap_FpR132_b123 : ¬ FpR132 b123 := moved_apartP mv138 ap_FpR82_b123 B126.lt
    have mF_FpR132 : ∀ g, FpR132 g → FpR g ∨ w.heap.size ≤ g := fun g hg => (mv138 g hg).elim (mF_FpR82 g) (fun h => .inr (Nat.le_trans hF.size h))
    have ap2_FpL_M133 : ∀ k, FpL k → inA M133 k → False := symP (new_apart2P hM139 fun _ hg => HL.lt hg)
    have ap2_MU_M133 : Apart2 MU M133 := (new_apart2 hM139 fun _ hg => OU.lt hg).symm
    have ap_M133_b1 : Apart M133 b1 := new_apart hM139 B4.lt
    have ap_M133_b6 : Apart M133 b6 := new_apart hM139 B9.lt
    have ap2_Q52_M133 : Apart2 Q52 M133 := (new_apart2 hM139 fun _ hg => hQ55.lt hg).symm
    have ap_M133_b63 : Apart M133 b63 := new_apart hM139 B66.lt
    have ap2_A70_M133 : Apart2 A70 M133 := (new_apart2 hM139 fun _ hg => O73.lt hg).symm
    have ap_M133_b19 : Apart M133 b19 := new_apart hM139 B22.lt
    have ap2_FpR82_M133 : ∀ k, FpR82 k → inA M133 k → False := symP (new_apart2P hM139 fun _ hg => H83.lt hg)
    have ap_M133_b123 : Apart M133 b123 := new_apart hM139 B126.lt
    have gA_M133 := gA_new hF hM139
    have gN_M133 := fun g (hg : inA M133 g) => Nat.le_trans hF.size (hM139 g hg)
    have ap2_FpR132_M133 := hap140
    replace HL := HL.new hN142
    replace OU := OU.new hN142
    replace B4 := B4.new hN142
    replace B9 := B9.new hN142
    replace hQ55 := hQ55.new hN142
    replace B66 := B66.new hN142
    replace O73 := O73.new hN142
    replace B22 := B22.new hN142
    replace H83 := H83.new hN142
    replace B126 := B126.new hN142
    replace hF := hF.trNew hN142
    have hbn144 := begin_len (bs := bsL) (d := (Ent.mk ((entOf EL n.toNat).o) ((entOf EL n.toNat).sh) ((entOf EL n.toNat).busy) ((entOf EL n.toNat).asks) ((entOf EL n.toNat).kind) ((entOf EL n.toNat).waits) ((entOf EL n.toNat).told) (((entOf EL n.toNat).q).drop 1))) (m := (((entOf EL n.toNat).q).getD 0 msg0))
    have hbs145 := begin_bs (bs := bsL) (d := (Ent.mk ((entOf EL n.toNat).o) ((entOf EL n.toNat).sh) ((entOf EL n.toNat).busy) ((entOf EL n.toNat).asks) ((entOf EL n.toNat).kind) ((entOf EL n.toNat).waits) ((entOf EL n.toNat).told) (((entOf EL n.toNat).q).drop 1))) (m := (((entOf EL n.toNat).q).getD 0 msg0))
    have hel146 : ((EL.set n.toNat (Ent.mk ((entOf EL n.toNat).o) ((entOf EL n.toNat).sh) ((entOf EL n.toNat).busy) ((entOf EL n.toNat).asks) ((entOf EL n.toNat).kind) ((entOf EL n.toNat).waits) ((entOf EL n.toNat).told) (((entOf EL n.toNat).q).drop 1))).set n.toNat (beginF bsL (Ent.mk ((entOf EL n.toNat).o) ((entOf EL n.toNat).sh) ((entOf EL n.toNat).busy) ((entOf EL n.toNat).asks) ((entOf EL n.toNat).kind) ((entOf EL n.toNat).waits) ((entOf EL n.toNat).told) (((entOf EL n.toNat).q).drop 1)) (((entOf EL n.toNat).q).getD 0 msg0)).1).length = (EL.set n.toNat (Ent.mk ((entOf EL n.toNat).o) ((entOf EL n.toNat).sh) ((entOf EL n.toNat).busy) ((entOf EL n.toNat).asks) ((entOf EL n.toNat).kind) ((entOf EL n.toNat).waits) ((entOf EL n.toNat).told) (((entOf EL n.toNat).q).drop 1))).length := List.length_set
    refine wpList_nil ?_
    refine ⟨⟨HL, OU, B4, B9, hQ55, B66, O73, B22, trivial⟩, ?_⟩
    refine fx_take (i := 6) (v := .tuple #[.agg (#[.slice A128 (((beginF bsL (Ent.mk ((entOf EL n.toNat).o) ((entOf EL n.toNat).sh) ((entOf EL n.toNat).busy) ((entOf EL n.toNat).asks) ((entOf EL n.toNat).kind) ((entOf EL n.toNat).waits) ((entOf EL n.toNat).told) (((entOf EL n.toNat).q).drop 1)) (((entOf EL n.toNat).q).getD 0 msg0)).2.1).length) cap129, .slice B130 (((EL.set n.toNat (Ent.mk ((entOf EL n.toNat).o) ((entOf EL n.toNat).sh) ((entOf EL n.toNat).busy) ((entOf EL n.toNat).asks) ((entOf EL n.toNat).kind) ((entOf EL n.toNat).waits) ((entOf EL n.toNat).told) (((entOf EL n.toNat).q).drop 1))).set n.toNat (beginF bsL (Ent.mk ((entOf EL n.toNat).o) ((entOf EL n.toNat).sh) ((entOf EL n.toNat).busy) ((entOf EL n.toNat).asks) ((entOf EL n.toNat).kind) ((entOf EL n.toNat).waits) ((entOf EL n.toNat).told) (((entOf EL n.toNat).q).drop 1)) (((entOf EL n.toNat).q).getD 0 msg0)).1).length) cb131]), .slice M133 ((beginF bsL (Ent.mk ((entOf EL n.toNat).o) ((entOf EL n.toNat).sh) ((entOf EL n.toNat).busy) ((entOf EL n.toNat).asks) ((entOf EL n.toNat).kind) ((entOf EL n.toNat).waits) ((entOf EL n.toNat).told) (((entOf EL n.toNat).q).drop 1)) (((entOf EL n.toNat).q).getD 0 msg0)).2.2.length) mc134]) fr rfl (by kernel_rfl) rfl rfl (by decide) (fun _ _ _ h => h) (fun _ ⟨HL, OU, B4, B9, hQ55, B66, O73, B22, _⟩ => x_move rfl (fr.ev rfl)) ⟨HL, OU, B4, B9, hQ55, B66, O73, B22, trivial⟩ ?_
    clear fr a; intro a fr
    refine fx_take (i := 7) (v := .agg (#[.slice A128 (((beginF bsL (Ent.mk ((entOf EL n.toNat).o) ((entOf EL n.toNat).sh) ((entOf EL n.toNat).busy) ((entOf EL n.toNat).asks) ((entOf EL n.toNat).kind) ((entOf EL n.toNat).waits) ((entOf EL n.toNat).told) (((entOf EL n.toNat).q).drop 1)) (((entOf EL n.toNat).q).getD 0 msg0)).2.1).length) cap129, .slice B130 (((EL.set n.toNat (Ent.mk ((entOf EL n.toNat).o) ((entOf EL n.toNat).sh) ((entOf EL n.toNat).busy) ((entOf EL n.toNat).asks) ((entOf EL n.toNat).kind) ((entOf EL n.toNat).waits) ((entOf EL n.toNat).told) (((entOf EL n.toNat).q).drop 1))).set n.toNat (beginF bsL (Ent.mk ((entOf EL n.toNat).o) ((entOf EL n.toNat).sh) ((entOf EL n.toNat).busy) ((entOf EL n.toNat).asks) ((entOf EL n.toNat).kind) ((entOf EL n.toNat).waits) ((entOf EL n.toNat).told) (((entOf EL n.toNat).q).drop 1)) (((entOf EL n.toNat).q).getD 0 msg0)).1).length) cb131])) fr rfl (by kernel_rfl) rfl rfl (by decide) (fun _ _ _ h => h) (fun _ ⟨HL, OU, B4, B9, hQ55, B66, O73, B22, _⟩ => x_extract rfl (fr.ev rfl) rfl) ⟨HL, OU, B4, B9, hQ55, B66, O73, B22, trivial⟩ ?_
    clear fr a; intro a fr
    refine fx_take (i := 8) (v := .slice M133 ((beginF bsL (Ent.mk ((entOf EL n.toNat).o) ((entOf EL n.toNat).sh) ((entOf EL n.toNat).busy) ((entOf EL n.toNat).asks) ((entOf EL n.toNat).kind) ((entOf EL n.toNat).waits) ((entOf EL n.toNat).told) (((entOf EL n.toNat).q).drop 1)) (((entOf EL n.toNat).q).getD 0 msg0)).2.2.length) mc134) fr rfl (by kernel_rfl) rfl rfl (by decide) (fun _ _ _ h => h) (fun _ ⟨HL, OU, B4, B9, hQ55, B66, O73, B22, _⟩ => x_extract rfl (fr.ev rfl) rfl) ⟨HL, OU, B4, B9, hQ55, B66, O73, B22, trivial⟩ ?_
    clear fr a; intro a fr
    refine fx_one (i := 10) (by kernel_rfl) (fx_op rfl ?_)
    refine fx_storeS sz28 rfl rfl rfl (fr.ev rfl) (fr.ev rfl) (by simp [Value.oneCell']) B126 rfl rfl fun w147 hO148 hBq => ?_
    replace HL := HL.only hO148 (ne1P ap_FpL_b123)
    replace OU := OU.only hO148 (Apart.ne1 ap_MU_b123)
    replace B4 := B4.only hO148 (by first | exact ne_b1_b123 | exact ne_b123_b1.symm | (show ¬ b1 = b123; omega))
    replace B9 := B9.only hO148 (by first | exact ne_b6_b123 | exact ne_b123_b6.symm | (show ¬ b6 = b123; omega))
    replace hQ55 := hQ55.only hO148 (Apart.ne1 ap_Q52_b123)
    replace B66 := B66.only hO148 (by first | exact ne_b63_b123 | exact ne_b123_b63.symm | (show ¬ b63 = b123; omega))
    replace O73 := O73.only hO148 (Apart.ne1 ap_A70_b123)
    replace B22 := B22.only hO148 (by first | exact ne_b19_b123 | exact ne_b123_b19.symm | (show ¬ b19 = b123; omega))
    replace H83 := H83.only hO148 (ne1P ap_FpR82_b123)
    replace H136 := H136.only hO148 (ne1P ap_FpR132_b123)
    replace O137 := O137.only hO148 (Apart.ne1 ap_M133_b123)
    replace hF := hF.loc hO148 (.inr g_b123)
    replace B126 := hBq
    clear hBq
    refine wpList_nil ?_
    refine ⟨⟨HL, OU, B4, B9, hQ55, B66, O73, B22, trivial⟩, ?_⟩
    refine fx_hdone (by kernel_rfl) ?_
    refine fx_tail ?_
    refine fx_val (v := .slice M133 ((beginF bsL (Ent.mk ((entOf EL n.toNat).o) ((entOf EL n.toNat).sh) ((entOf EL n.toNat).busy) ((entOf EL n.toNat).asks) ((entOf EL n.toNat).kind) ((entOf EL n.toNat).waits) ((entOf EL n.toNat).told) (((entOf EL n.toNat).q).drop 1)) (((entOf EL n.toNat).q).getD 0 msg0)).2.2.length) mc134) fr rfl rfl (by decide) (x_assign rfl (fr.ev rfl)) ?_
    clear fr a; intro a fr
    refine wpList_nil ?_
    refine fx_next ?_
    refine wp_seq ?_
    refine wp_region_lit ?_
    refine fx_val (v := .agg (#[.slice A128 (((beginF bsL (Ent.mk ((entOf EL n.toNat).o) ((entOf EL n.toNat).sh) ((entOf EL n.toNat).busy) ((entOf EL n.toNat).asks) ((entOf EL n.toNat).kind) ((entOf EL n.toNat).waits) ((entOf EL n.toNat).told) (((entOf EL n.toNat).q).drop 1)) (((entOf EL n.toNat).q).getD 0 msg0)).2.1).length) cap129, .slice B130 (((EL.set n.toNat (Ent.mk ((entOf EL n.toNat).o) ((entOf EL n.toNat).sh) ((entOf EL n.toNat).busy) ((entOf EL n.toNat).asks) ((entOf EL n.toNat).kind) ((entOf EL n.toNat).waits) ((entOf EL n.toNat).told) (((entOf EL n.toNat).q).drop 1))).set n.toNat (beginF bsL (Ent.mk ((entOf EL n.toNat).o) ((entOf EL n.toNat).sh) ((entOf EL n.toNat).busy) ((entOf EL n.toNat).asks) ((entOf EL n.toNat).kind) ((entOf EL n.toNat).waits) ((entOf EL n.toNat).told) (((entOf EL n.toNat).q).drop 1)) (((entOf EL n.toNat).q).getD 0 msg0)).1).length) cb131])) fr rfl rfl (by decide) (x_loadS ag28 rfl (fr.ev rfl) rfl B126.range) ?_
    clear fr a; intro a fr
    refine fx_storeS sz28 rfl rfl rfl (fr.ev rfl) (fr.ev rfl) (by simp [Value.oneCell']) B4 rfl rfl fun w149 hO150 hBq => ?_
    replace HL := HL.only hO150 (ne1P ap_FpL_b1)
    replace OU := OU.only hO150 (Apart.ne1 ap_MU_b1)
    replace B9 := B9.only hO150 (by first | exact ne_b6_b1 | exact ne_b1_b6.symm | (show ¬ b6 = b1; omega))
    replace hQ55 := hQ55.only hO150 (Apart.ne1 ap_Q52_b1)
    replace B66 := B66.only hO150 (by first | exact ne_b63_b1 | exact ne_b1_b63.symm | (show ¬ b63 = b1; omega))
    replace O73 := O73.only hO150 (Apart.ne1 ap_A70_b1)
    replace B22 := B22.only hO150 (by first | exact ne_b19_b1 | exact ne_b1_b19.symm | (show ¬ b19 = b1; omega))
    replace H83 := H83.only hO150 (ne1P ap_FpR82_b1)
    replace H136 := H136.only hO150 (ne1P ap_FpR132_b1)
    replace O137 := O137.only hO150 (Apart.ne1 ap_M133_b1)
    replace B126 := B126.only hO150 (by first | exact ne_b123_b1 | exact ne_b1_b123.symm | (show ¬ b123 = b1; omega))
    replace hF := hF.loc hO150 (.inr g_b1)
    replace B4 := hBq
    clear hBq
    refine wpList_nil ?_
    refine fx_next ?_
    refine wp_region_lit ?_
    refine fx_val (v := .slice MU out9.length mcU) fr rfl rfl (by decide) (x_move rfl (fr.ev rfl)) ?_
    clear fr a; intro a fr
    refine fx_val (v := .slice M133 ((beginF bsL (Ent.mk ((entOf EL n.toNat).o) ((entOf EL n.toNat).sh) ((entOf EL n.toNat).busy) ((entOf EL n.toNat).asks) ((entOf EL n.toNat).kind) ((entOf EL n.toNat).waits) ((entOf EL n.toNat).told) (((entOf EL n.toNat).q).drop 1)) (((entOf EL n.toNat).q).getD 0 msg0)).2.2.length) mc134) fr rfl rfl (by decide) (x_move rfl (fr.ev rfl)) ?_
    clear fr a; intro a fr
    refine fx_append (E := msgE) (l := out9) (l' := (beginF bsL (Ent.mk ((entOf EL n.toNat).o) ((entOf EL n.toNat).sh) ((entOf EL n.toNat).busy) ((entOf EL n.toNat).asks) ((entOf EL n.toNat).kind) ((entOf EL n.toNat).waits) ((entOf EL n.toNat).told) (((entOf EL n.toNat).q).drop 1)) (((entOf EL n.toNat).q).getD 0 msg0)).2.2) elMsg fr rfl rfl (by decide) rfl (fr.ev rfl) (fr.ev rfl) (by first | rfl | (simp; done) | (simp; omega)) (by first | rfl | (simp; done) | (simp; omega)) OU O137.view (by first | omega | (simp only [List.length_append, List.length_cons, List.length_nil, List.length_drop, List.length_map]; omega) | (simp; omega)) (by first | (unfold maxLen; done) | (unfold maxLen; first | omega | (simp only [List.length_append, List.length_cons, List.length_nil]; omega) | (simp; done) | (simp; omega))) ?_
    clear fr a
    intro A151 cap152 w153 O154 hO155 mv156 a fr
    have ap2_A151_FpL : ∀ k, inA A151 k → FpL k → False := moved_apart2P mv156 (symP ap2_FpL_MU) fun _ hg => HL.lt hg
    have ap_A151_b6 : Apart A151 b6 := moved_apart mv156 ap_MU_b6 B9.lt
    have ap2_A151_Q52 : Apart2 A151 Q52 := moved_apart2 mv156 ap2_Q52_MU.symm fun _ hg => hQ55.lt hg
    have ap_A151_b63 : Apart A151 b63 := moved_apart mv156 ap_MU_b63 B66.lt
    have ap2_A151_A70 : Apart2 A151 A70 := moved_apart2 mv156 ap2_A70_MU.symm fun _ hg => O73.lt hg
    have ap_A151_b19 : Apart A151 b19 := moved_apart mv156 ap_MU_b19 B22.lt
    have ap2_A151_FpR82 : ∀ k, inA A151 k → FpR82 k → False := moved_apart2P mv156 (symP ap2_FpR82_MU) fun _ hg => H83.lt hg
    have ap2_A151_FpR132 : ∀ k, inA A151 k → FpR132 k → False := moved_apart2P mv156 (symP ap2_FpR132_MU) fun _ hg => H136.lt hg
    have ap2_A151_M133 : Apart2 A151 M133 := moved_apart2 mv156 ap2_MU_M133 fun _ hg => O137.lt hg
    have ap_A151_b123 : Apart A151 b123 := moved_apart mv156 ap_MU_b123 B126.lt
    have ap_A151_b1 : Apart A151 b1 := moved_apart mv156 ap_MU_b1 B4.lt
    have gA_A151 := gA_moved hF mv156 gA_MU
    replace HL := HL.only hO155 (fun g h1 h2 => ap2_FpL_MU g h1 h2)
    replace B9 := B9.only hO155 ap_MU_b6
    replace hQ55 := hQ55.only hO155 (fun g h1 h2 => ap2_Q52_MU g h1 h2)
    replace B66 := B66.only hO155 ap_MU_b63
    replace O73 := O73.only hO155 (fun g h1 h2 => ap2_A70_MU g h1 h2)
    replace B22 := B22.only hO155 ap_MU_b19
    replace H83 := H83.only hO155 (fun g h1 h2 => ap2_FpR82_MU g h1 h2)
    replace H136 := H136.only hO155 (fun g h1 h2 => ap2_FpR132_MU g h1 h2)
    replace O137 := O137.only hO155 (fun g h1 h2 => ap2_MU_M133.symm g h1 h2)
    replace B126 := B126.only hO155 ap_MU_b123
    replace B4 := B4.only hO155 ap_MU_b1
    replace hF := hF.locA hO155 gA_MU
    clear OU
    refine fx_val (v := .slice A151 ((out9 ++ ((beginF bsL (Ent.mk ((entOf EL n.toNat).o) ((entOf EL n.toNat).sh) ((entOf EL n.toNat).busy) ((entOf EL n.toNat).asks) ((entOf EL n.toNat).kind) ((entOf EL n.toNat).waits) ((entOf EL n.toNat).told) (((entOf EL n.toNat).q).drop 1)) (((entOf EL n.toNat).q).getD 0 msg0)).2.2)).length) cap152) fr rfl rfl (by decide) (x_assign rfl (fr.ev rfl)) ?_
    clear fr a; intro a fr
    refine wpList_nil ?_
    refine fx_blk ?_
    refine fx_next ?_
    have hbl := begin_len (bs := bsL) (d := { (entOf EL n.toNat) with q := (entOf EL n.toNat).q.drop 1 }) (m := (entOf EL n.toNat).q.getD 0 msg0)
    have hbq := begin_qn (bs := bsL) (d := (entOf EL n.toNat)) (m := (entOf EL n.toNat).q.getD 0 msg0)
    have hnew : entOf ((EL.set n.toNat (Ent.mk ((entOf EL n.toNat).o) ((entOf EL n.toNat).sh) ((entOf EL n.toNat).busy) ((entOf EL n.toNat).asks) ((entOf EL n.toNat).kind) ((entOf EL n.toNat).waits) ((entOf EL n.toNat).told) (((entOf EL n.toNat).q).drop 1))).set n.toNat (beginF bsL (Ent.mk ((entOf EL n.toNat).o) ((entOf EL n.toNat).sh) ((entOf EL n.toNat).busy) ((entOf EL n.toNat).asks) ((entOf EL n.toNat).kind) ((entOf EL n.toNat).waits) ((entOf EL n.toNat).told) (((entOf EL n.toNat).q).drop 1)) (((entOf EL n.toNat).q).getD 0 msg0)).1) n.toNat = (beginF bsL (Ent.mk ((entOf EL n.toNat).o) ((entOf EL n.toNat).sh) ((entOf EL n.toNat).busy) ((entOf EL n.toNat).asks) ((entOf EL n.toNat).kind) ((entOf EL n.toNat).waits) ((entOf EL n.toNat).told) (((entOf EL n.toNat).q).drop 1)) (((entOf EL n.toNat).q).getD 0 msg0)).1 := by rw [entOf_set (by simp only [List.length_set]; omega), if_pos rfl]
    change (beginF bsL (Ent.mk ((entOf EL n.toNat).o) ((entOf EL n.toNat).sh) ((entOf EL n.toNat).busy) ((entOf EL n.toNat).asks) ((entOf EL n.toNat).kind) ((entOf EL n.toNat).waits) ((entOf EL n.toNat).told) (((entOf EL n.toNat).q).drop 1)) (((entOf EL n.toNat).q).getD 0 msg0)).2.2.length ≤ 4 at hbl
    change (beginF bsL (Ent.mk ((entOf EL n.toNat).o) ((entOf EL n.toNat).sh) ((entOf EL n.toNat).busy) ((entOf EL n.toNat).asks) ((entOf EL n.toNat).kind) ((entOf EL n.toNat).waits) ((entOf EL n.toNat).told) (((entOf EL n.toNat).q).drop 1)) (((entOf EL n.toNat).q).getD 0 msg0)).1.q.length = _ at hbq
    exact ⟨_, (by rw [hnew]; omega), FpR132, A128, cap129, B130, cb131, ((beginF bsL (Ent.mk ((entOf EL n.toNat).o) ((entOf EL n.toNat).sh) ((entOf EL n.toNat).busy) ((entOf EL n.toNat).asks) ((entOf EL n.toNat).kind) ((entOf EL n.toNat).waits) ((entOf EL n.toNat).told) (((entOf EL n.toNat).q).drop 1)) (((entOf EL n.toNat).q).getD 0 msg0)).2.1), ((EL.set n.toNat (Ent.mk ((entOf EL n.toNat).o) ((entOf EL n.toNat).sh) ((entOf EL n.toNat).busy) ((entOf EL n.toNat).asks) ((entOf EL n.toNat).kind) ((entOf EL n.toNat).waits) ((entOf EL n.toNat).told) (((entOf EL n.toNat).q).drop 1))).set n.toNat (beginF bsL (Ent.mk ((entOf EL n.toNat).o) ((entOf EL n.toNat).sh) ((entOf EL n.toNat).busy) ((entOf EL n.toNat).asks) ((entOf EL n.toNat).kind) ((entOf EL n.toNat).waits) ((entOf EL n.toNat).told) (((entOf EL n.toNat).q).drop 1)) (((entOf EL n.toNat).q).getD 0 msg0)).1), X135, (Ent.mk ((entOf EL n.toNat).o) ((entOf EL n.toNat).sh) ((entOf EL n.toNat).busy) ((entOf EL n.toNat).asks) ((entOf EL n.toNat).kind) ((entOf EL n.toNat).waits) ((entOf EL n.toNat).told) (((entOf EL n.toNat).q).drop 1)), A70, cap71, A151, cap152, (out9 ++ ((beginF bsL (Ent.mk ((entOf EL n.toNat).o) ((entOf EL n.toNat).sh) ((entOf EL n.toNat).busy) ((entOf EL n.toNat).asks) ((entOf EL n.toNat).kind) ((entOf EL n.toNat).waits) ((entOf EL n.toNat).told) (((entOf EL n.toNat).q).drop 1)) (((entOf EL n.toNat).q).getD 0 msg0)).2.2)), rfl, fr.sub ⟨rfl, rfl, rfl, rfl, rfl, trivial⟩, hF, H136, O154, B4, B22, B9, (by rw [hnew]; exact (drain_step hgo.1 hgo2 _).trans hp0), (by rw [hnew]; exact fun x hx => hp1 x (begin_ql hx)), (by rw [hnew, List.length_append]; omega), (by simp only [List.length_set]; exact hp3), (begin_bs.trans hp4), (fun d => by rw [List.set_set, List.set_set]; exact hp5 d), mF_FpR132, (symP ap2_A151_FpR132), ap_FpR132_b1, ap_FpR132_b19, ap_FpR132_b6, ap_A151_b1, ap_A151_b19, ap_A151_b6, gA_A151⟩
  ·skip
   refine fx_new fr rfl rfl (by decide) (x_alloc (z := .agg (#[.slice none 0 0, .slice none 0 0])) (cs := #[.slice none 0 0, .slice none 0 0]) rfl (by kernel_rfl) rfl) ?_
   clear fr a
   intro b157 w158 hN159 B160 hb161 a fr
   have ap_FpL_b157 : ¬ FpL b157 := HL.apart hb161
   have ap_MU_b157 : Apart MU b157 := OU.apart hb161
   have ne_b1_b157 : NE b1 b157 := NE.mk (Nat.lt_of_lt_of_le B4.lt hb161)
   have ne_b6_b157 : NE b6 b157 := NE.mk (Nat.lt_of_lt_of_le B9.lt hb161)
   have ap_Q52_b157 : Apart Q52 b157 := hQ55.apart hb161
   have ne_b63_b157 : NE b63 b157 := NE.mk (Nat.lt_of_lt_of_le B66.lt hb161)
   have ap_A70_b157 : Apart A70 b157 := O73.apart hb161
   have ne_b19_b157 : NE b19 b157 := NE.mk (Nat.lt_of_lt_of_le B22.lt hb161)
   have g_b157 := Nat.le_trans hF.size hb161
   replace HL := HL.new hN159
   replace OU := OU.new hN159
   replace B4 := B4.new hN159
   replace B9 := B9.new hN159
   replace hQ55 := hQ55.new hN159
   replace B66 := B66.new hN159
   replace O73 := O73.new hN159
   replace B22 := B22.new hN159
   replace hF := hF.trNew hN159
   refine wpList_nil ?_
   refine ⟨⟨HL, OU, B4, B9, hQ55, B66, O73, B22, trivial⟩, ?_⟩
   refine fx_one (i := 3) (by kernel_rfl) (fx_op rfl ?_)
   refine fx_call fr rfl rfl (by decide) (x_call (vs := [.agg (#[.slice AL bsL.length capL, .slice BL EL.length cbL]), .int .u32 n, .agg (entA (Ent.mk ((entOf EL n.toNat).o) ((entOf EL n.toNat).sh) ((entOf EL n.toNat).busy) ((entOf EL n.toNat).asks) ((entOf EL n.toNat).kind) ((entOf EL n.toNat).waits) ((entOf EL n.toNat).told) (((entOf EL n.toNat).q).drop 1)) (.slice A70 ((((entOf EL n.toNat).q).drop 1).length) cap71))]) rfl rfl ⟨(fr.ev rfl), (fr.ev rfl), (fr.ev rfl), trivial⟩ Try.func40 nm40 rfl) (rwith_r n hn (Ent.mk ((entOf EL n.toNat).o) ((entOf EL n.toNat).sh) ((entOf EL n.toNat).busy) ((entOf EL n.toNat).asks) ((entOf EL n.toNat).kind) ((entOf EL n.toNat).waits) ((entOf EL n.toNat).told) (((entOf EL n.toNat).q).drop 1)) A70 cap71 HL (by omega) (by omega) O73.view) ?_
   clear fr a
   rintro v w167 ⟨B162, cb163, FpR164, rfl, H165, mv166, hN168⟩ a fr
   have mQ_A70 : ∀ g, inA A70 g → FpR g ∨ w.heap.size ≤ g := fun g hg => .inr (gN_A70 g hg)
   have ap2_FpR164_MU : ∀ k, FpR164 k → inA MU k → False := moved_apart2P mv166 (fun k hk => (fun h => h.elim (ap2_FpL_MU k) (ap2_A70_MU k)) hk) fun _ hg => OU.lt hg
   have ap_FpR164_b1 : ¬ FpR164 b1 := moved_apartP mv166 (fun h => h.elim ap_FpL_b1 ap_A70_b1) B4.lt
   have ap_FpR164_b6 : ¬ FpR164 b6 := moved_apartP mv166 (fun h => h.elim ap_FpL_b6 ap_A70_b6) B9.lt
   have ap_FpR164_b63 : ¬ FpR164 b63 := moved_apartP mv166 (fun h => h.elim ap_FpL_b63 ap_A70_b63) B66.lt
   have ap_FpR164_b19 : ¬ FpR164 b19 := moved_apartP mv166 (fun h => h.elim ap_FpL_b19 ap_A70_b19) B22.lt
   have ap_FpR164_b157 : ¬ FpR164 b157 := moved_apartP mv166 (fun h => h.elim ap_FpL_b157 ap_A70_b157) B160.lt
   have mF_FpR164 : ∀ g, FpR164 g → FpR g ∨ w.heap.size ≤ g := fun g hg => (mv166 g hg).elim (fun h => h.elim (mF_FpL g) (mQ_A70 g)) (fun h => .inr (Nat.le_trans hF.size h))
   replace HL := HL.new hN168
   replace OU := OU.new hN168
   replace B4 := B4.new hN168
   replace B9 := B9.new hN168
   replace hQ55 := hQ55.new hN168
   replace B66 := B66.new hN168
   replace O73 := O73.new hN168
   replace B22 := B22.new hN168
   replace B160 := B160.new hN168
   replace hF := hF.trNew hN168
   have hel169 : (EL.set n.toNat (Ent.mk ((entOf EL n.toNat).o) ((entOf EL n.toNat).sh) ((entOf EL n.toNat).busy) ((entOf EL n.toNat).asks) ((entOf EL n.toNat).kind) ((entOf EL n.toNat).waits) ((entOf EL n.toNat).told) (((entOf EL n.toNat).q).drop 1))).length = EL.length := List.length_set
   have hxl170 := H165.len
   simp only [List.length_set] at hxl170
   refine wpList_nil ?_
   refine ⟨⟨HL, OU, B4, B9, hQ55, B66, O73, B22, trivial⟩, ?_⟩
   refine fx_one (i := 5) (by kernel_rfl) (fx_op rfl ?_)
   refine fx_call fr rfl rfl (by decide) (x_call (vs := [.agg (#[.slice AL bsL.length capL, .slice B162 ((EL.set n.toNat (Ent.mk ((entOf EL n.toNat).o) ((entOf EL n.toNat).sh) ((entOf EL n.toNat).busy) ((entOf EL n.toNat).asks) ((entOf EL n.toNat).kind) ((entOf EL n.toNat).waits) ((entOf EL n.toNat).told) (((entOf EL n.toNat).q).drop 1))).length) cb163]), .agg (msgE.arr (((entOf EL n.toNat).q).getD 0 msg0))]) rfl rfl ⟨(fr.ev rfl), (fr.ev rfl), trivial⟩ Try.func41 nm41 rfl) (rbegin_l (((entOf EL n.toNat).q).getD 0 msg0) n H165 hq1.2.2.2 (by simp only [List.length_set]; omega) (by simp only [List.length_set]; omega) (by omega) hq1.2.2.1 ⟨hq1.1, hq1.2.1⟩) ?_
   clear fr a
   rintro v w184 ⟨A171, cap172, B173, cb174, FpR175, M176, mc177, rfl, ⟨X178, H179⟩, O180, mv181, hM182, hap183, hN185⟩ a fr
   have he186 : entOf (EL.set n.toNat (Ent.mk ((entOf EL n.toNat).o) ((entOf EL n.toNat).sh) ((entOf EL n.toNat).busy) ((entOf EL n.toNat).asks) ((entOf EL n.toNat).kind) ((entOf EL n.toNat).waits) ((entOf EL n.toNat).told) (((entOf EL n.toNat).q).drop 1))) n.toNat = (Ent.mk ((entOf EL n.toNat).o) ((entOf EL n.toNat).sh) ((entOf EL n.toNat).busy) ((entOf EL n.toNat).asks) ((entOf EL n.toNat).kind) ((entOf EL n.toNat).waits) ((entOf EL n.toNat).told) (((entOf EL n.toNat).q).drop 1)) := by rw [entOf_set (by omega), if_pos rfl]
   rw [he186] at fr H179 O180
   have ap2_FpR175_MU : ∀ k, FpR175 k → inA MU k → False := moved_apart2P mv181 ap2_FpR164_MU fun _ hg => OU.lt hg
   have ap_FpR175_b1 : ¬ FpR175 b1 := moved_apartP mv181 ap_FpR164_b1 B4.lt
   have ap_FpR175_b6 : ¬ FpR175 b6 := moved_apartP mv181 ap_FpR164_b6 B9.lt
   have ap_FpR175_b63 : ¬ FpR175 b63 := moved_apartP mv181 ap_FpR164_b63 B66.lt
   have ap_FpR175_b19 : ¬ FpR175 b19 := moved_apartP mv181 ap_FpR164_b19 B22.lt
   have ap_FpR175_b157 : ¬ FpR175 b157 := moved_apartP mv181 ap_FpR164_b157 B160.lt
   have mF_FpR175 : ∀ g, FpR175 g → FpR g ∨ w.heap.size ≤ g := fun g hg => (mv181 g hg).elim (mF_FpR164 g) (fun h => .inr (Nat.le_trans hF.size h))
   have ap2_FpL_M176 : ∀ k, FpL k → inA M176 k → False := symP (new_apart2P hM182 fun _ hg => HL.lt hg)
   have ap2_MU_M176 : Apart2 MU M176 := (new_apart2 hM182 fun _ hg => OU.lt hg).symm
   have ap_M176_b1 : Apart M176 b1 := new_apart hM182 B4.lt
   have ap_M176_b6 : Apart M176 b6 := new_apart hM182 B9.lt
   have ap2_Q52_M176 : Apart2 Q52 M176 := (new_apart2 hM182 fun _ hg => hQ55.lt hg).symm
   have ap_M176_b63 : Apart M176 b63 := new_apart hM182 B66.lt
   have ap2_A70_M176 : Apart2 A70 M176 := (new_apart2 hM182 fun _ hg => O73.lt hg).symm
   have ap_M176_b19 : Apart M176 b19 := new_apart hM182 B22.lt
   have ap_M176_b157 : Apart M176 b157 := new_apart hM182 B160.lt
   have ap2_FpR164_M176 : ∀ k, FpR164 k → inA M176 k → False := symP (new_apart2P hM182 fun _ hg => H165.lt hg)
   have gA_M176 := gA_new hF hM182
   have gN_M176 := fun g (hg : inA M176 g) => Nat.le_trans hF.size (hM182 g hg)
   have ap2_FpR175_M176 := hap183
   replace HL := HL.new hN185
   replace OU := OU.new hN185
   replace B4 := B4.new hN185
   replace B9 := B9.new hN185
   replace hQ55 := hQ55.new hN185
   replace B66 := B66.new hN185
   replace O73 := O73.new hN185
   replace B22 := B22.new hN185
   replace B160 := B160.new hN185
   replace H165 := H165.new hN185
   replace hF := hF.trNew hN185
   have hbn187 := begin_len (bs := bsL) (d := (Ent.mk ((entOf EL n.toNat).o) ((entOf EL n.toNat).sh) ((entOf EL n.toNat).busy) ((entOf EL n.toNat).asks) ((entOf EL n.toNat).kind) ((entOf EL n.toNat).waits) ((entOf EL n.toNat).told) (((entOf EL n.toNat).q).drop 1))) (m := (((entOf EL n.toNat).q).getD 0 msg0))
   have hbs188 := begin_bs (bs := bsL) (d := (Ent.mk ((entOf EL n.toNat).o) ((entOf EL n.toNat).sh) ((entOf EL n.toNat).busy) ((entOf EL n.toNat).asks) ((entOf EL n.toNat).kind) ((entOf EL n.toNat).waits) ((entOf EL n.toNat).told) (((entOf EL n.toNat).q).drop 1))) (m := (((entOf EL n.toNat).q).getD 0 msg0))
   have hel189 : ((EL.set n.toNat (Ent.mk ((entOf EL n.toNat).o) ((entOf EL n.toNat).sh) ((entOf EL n.toNat).busy) ((entOf EL n.toNat).asks) ((entOf EL n.toNat).kind) ((entOf EL n.toNat).waits) ((entOf EL n.toNat).told) (((entOf EL n.toNat).q).drop 1))).set n.toNat (beginF bsL (Ent.mk ((entOf EL n.toNat).o) ((entOf EL n.toNat).sh) ((entOf EL n.toNat).busy) ((entOf EL n.toNat).asks) ((entOf EL n.toNat).kind) ((entOf EL n.toNat).waits) ((entOf EL n.toNat).told) (((entOf EL n.toNat).q).drop 1)) (((entOf EL n.toNat).q).getD 0 msg0)).1).length = (EL.set n.toNat (Ent.mk ((entOf EL n.toNat).o) ((entOf EL n.toNat).sh) ((entOf EL n.toNat).busy) ((entOf EL n.toNat).asks) ((entOf EL n.toNat).kind) ((entOf EL n.toNat).waits) ((entOf EL n.toNat).told) (((entOf EL n.toNat).q).drop 1))).length := List.length_set
   refine wpList_nil ?_
   refine ⟨⟨HL, OU, B4, B9, hQ55, B66, O73, B22, trivial⟩, ?_⟩
   refine fx_take (i := 6) (v := .tuple #[.agg (#[.slice A171 (((beginF bsL (Ent.mk ((entOf EL n.toNat).o) ((entOf EL n.toNat).sh) ((entOf EL n.toNat).busy) ((entOf EL n.toNat).asks) ((entOf EL n.toNat).kind) ((entOf EL n.toNat).waits) ((entOf EL n.toNat).told) (((entOf EL n.toNat).q).drop 1)) (((entOf EL n.toNat).q).getD 0 msg0)).2.1).length) cap172, .slice B173 (((EL.set n.toNat (Ent.mk ((entOf EL n.toNat).o) ((entOf EL n.toNat).sh) ((entOf EL n.toNat).busy) ((entOf EL n.toNat).asks) ((entOf EL n.toNat).kind) ((entOf EL n.toNat).waits) ((entOf EL n.toNat).told) (((entOf EL n.toNat).q).drop 1))).set n.toNat (beginF bsL (Ent.mk ((entOf EL n.toNat).o) ((entOf EL n.toNat).sh) ((entOf EL n.toNat).busy) ((entOf EL n.toNat).asks) ((entOf EL n.toNat).kind) ((entOf EL n.toNat).waits) ((entOf EL n.toNat).told) (((entOf EL n.toNat).q).drop 1)) (((entOf EL n.toNat).q).getD 0 msg0)).1).length) cb174]), .slice M176 ((beginF bsL (Ent.mk ((entOf EL n.toNat).o) ((entOf EL n.toNat).sh) ((entOf EL n.toNat).busy) ((entOf EL n.toNat).asks) ((entOf EL n.toNat).kind) ((entOf EL n.toNat).waits) ((entOf EL n.toNat).told) (((entOf EL n.toNat).q).drop 1)) (((entOf EL n.toNat).q).getD 0 msg0)).2.2.length) mc177]) fr rfl (by kernel_rfl) rfl rfl (by decide) (fun _ _ _ h => h) (fun _ ⟨HL, OU, B4, B9, hQ55, B66, O73, B22, _⟩ => x_move rfl (fr.ev rfl)) ⟨HL, OU, B4, B9, hQ55, B66, O73, B22, trivial⟩ ?_
   clear fr a; intro a fr
   refine fx_take (i := 7) (v := .agg (#[.slice A171 (((beginF bsL (Ent.mk ((entOf EL n.toNat).o) ((entOf EL n.toNat).sh) ((entOf EL n.toNat).busy) ((entOf EL n.toNat).asks) ((entOf EL n.toNat).kind) ((entOf EL n.toNat).waits) ((entOf EL n.toNat).told) (((entOf EL n.toNat).q).drop 1)) (((entOf EL n.toNat).q).getD 0 msg0)).2.1).length) cap172, .slice B173 (((EL.set n.toNat (Ent.mk ((entOf EL n.toNat).o) ((entOf EL n.toNat).sh) ((entOf EL n.toNat).busy) ((entOf EL n.toNat).asks) ((entOf EL n.toNat).kind) ((entOf EL n.toNat).waits) ((entOf EL n.toNat).told) (((entOf EL n.toNat).q).drop 1))).set n.toNat (beginF bsL (Ent.mk ((entOf EL n.toNat).o) ((entOf EL n.toNat).sh) ((entOf EL n.toNat).busy) ((entOf EL n.toNat).asks) ((entOf EL n.toNat).kind) ((entOf EL n.toNat).waits) ((entOf EL n.toNat).told) (((entOf EL n.toNat).q).drop 1)) (((entOf EL n.toNat).q).getD 0 msg0)).1).length) cb174])) fr rfl (by kernel_rfl) rfl rfl (by decide) (fun _ _ _ h => h) (fun _ ⟨HL, OU, B4, B9, hQ55, B66, O73, B22, _⟩ => x_extract rfl (fr.ev rfl) rfl) ⟨HL, OU, B4, B9, hQ55, B66, O73, B22, trivial⟩ ?_
   clear fr a; intro a fr
   refine fx_take (i := 8) (v := .slice M176 ((beginF bsL (Ent.mk ((entOf EL n.toNat).o) ((entOf EL n.toNat).sh) ((entOf EL n.toNat).busy) ((entOf EL n.toNat).asks) ((entOf EL n.toNat).kind) ((entOf EL n.toNat).waits) ((entOf EL n.toNat).told) (((entOf EL n.toNat).q).drop 1)) (((entOf EL n.toNat).q).getD 0 msg0)).2.2.length) mc177) fr rfl (by kernel_rfl) rfl rfl (by decide) (fun _ _ _ h => h) (fun _ ⟨HL, OU, B4, B9, hQ55, B66, O73, B22, _⟩ => x_extract rfl (fr.ev rfl) rfl) ⟨HL, OU, B4, B9, hQ55, B66, O73, B22, trivial⟩ ?_
   clear fr a; intro a fr
   refine fx_one (i := 10) (by kernel_rfl) (fx_op rfl ?_)
   refine fx_storeS sz28 rfl rfl rfl (fr.ev rfl) (fr.ev rfl) (by simp [Value.oneCell']) B160 rfl rfl fun w190 hO191 hBq => ?_
   replace HL := HL.only hO191 (ne1P ap_FpL_b157)
   replace OU := OU.only hO191 (Apart.ne1 ap_MU_b157)
   replace B4 := B4.only hO191 (by first | exact ne_b1_b157 | exact ne_b157_b1.symm | (show ¬ b1 = b157; omega))
   replace B9 := B9.only hO191 (by first | exact ne_b6_b157 | exact ne_b157_b6.symm | (show ¬ b6 = b157; omega))
   replace hQ55 := hQ55.only hO191 (Apart.ne1 ap_Q52_b157)
   replace B66 := B66.only hO191 (by first | exact ne_b63_b157 | exact ne_b157_b63.symm | (show ¬ b63 = b157; omega))
   replace O73 := O73.only hO191 (Apart.ne1 ap_A70_b157)
   replace B22 := B22.only hO191 (by first | exact ne_b19_b157 | exact ne_b157_b19.symm | (show ¬ b19 = b157; omega))
   replace H165 := H165.only hO191 (ne1P ap_FpR164_b157)
   replace H179 := H179.only hO191 (ne1P ap_FpR175_b157)
   replace O180 := O180.only hO191 (Apart.ne1 ap_M176_b157)
   replace hF := hF.loc hO191 (.inr g_b157)
   replace B160 := hBq
   clear hBq
   refine wpList_nil ?_
   refine ⟨⟨HL, OU, B4, B9, hQ55, B66, O73, B22, trivial⟩, ?_⟩
   refine fx_hdone (by kernel_rfl) ?_
   refine fx_tail ?_
   refine fx_val (v := .slice M176 ((beginF bsL (Ent.mk ((entOf EL n.toNat).o) ((entOf EL n.toNat).sh) ((entOf EL n.toNat).busy) ((entOf EL n.toNat).asks) ((entOf EL n.toNat).kind) ((entOf EL n.toNat).waits) ((entOf EL n.toNat).told) (((entOf EL n.toNat).q).drop 1)) (((entOf EL n.toNat).q).getD 0 msg0)).2.2.length) mc177) fr rfl rfl (by decide) (x_assign rfl (fr.ev rfl)) ?_
   clear fr a; intro a fr
   refine wpList_nil ?_
   refine fx_next ?_
   refine wp_seq ?_
   refine wp_region_lit ?_
   refine fx_val (v := .agg (#[.slice A171 (((beginF bsL (Ent.mk ((entOf EL n.toNat).o) ((entOf EL n.toNat).sh) ((entOf EL n.toNat).busy) ((entOf EL n.toNat).asks) ((entOf EL n.toNat).kind) ((entOf EL n.toNat).waits) ((entOf EL n.toNat).told) (((entOf EL n.toNat).q).drop 1)) (((entOf EL n.toNat).q).getD 0 msg0)).2.1).length) cap172, .slice B173 (((EL.set n.toNat (Ent.mk ((entOf EL n.toNat).o) ((entOf EL n.toNat).sh) ((entOf EL n.toNat).busy) ((entOf EL n.toNat).asks) ((entOf EL n.toNat).kind) ((entOf EL n.toNat).waits) ((entOf EL n.toNat).told) (((entOf EL n.toNat).q).drop 1))).set n.toNat (beginF bsL (Ent.mk ((entOf EL n.toNat).o) ((entOf EL n.toNat).sh) ((entOf EL n.toNat).busy) ((entOf EL n.toNat).asks) ((entOf EL n.toNat).kind) ((entOf EL n.toNat).waits) ((entOf EL n.toNat).told) (((entOf EL n.toNat).q).drop 1)) (((entOf EL n.toNat).q).getD 0 msg0)).1).length) cb174])) fr rfl rfl (by decide) (x_loadS ag28 rfl (fr.ev rfl) rfl B160.range) ?_
   clear fr a; intro a fr
   refine fx_storeS sz28 rfl rfl rfl (fr.ev rfl) (fr.ev rfl) (by simp [Value.oneCell']) B4 rfl rfl fun w192 hO193 hBq => ?_
   replace HL := HL.only hO193 (ne1P ap_FpL_b1)
   replace OU := OU.only hO193 (Apart.ne1 ap_MU_b1)
   replace B9 := B9.only hO193 (by first | exact ne_b6_b1 | exact ne_b1_b6.symm | (show ¬ b6 = b1; omega))
   replace hQ55 := hQ55.only hO193 (Apart.ne1 ap_Q52_b1)
   replace B66 := B66.only hO193 (by first | exact ne_b63_b1 | exact ne_b1_b63.symm | (show ¬ b63 = b1; omega))
   replace O73 := O73.only hO193 (Apart.ne1 ap_A70_b1)
   replace B22 := B22.only hO193 (by first | exact ne_b19_b1 | exact ne_b1_b19.symm | (show ¬ b19 = b1; omega))
   replace H165 := H165.only hO193 (ne1P ap_FpR164_b1)
   replace H179 := H179.only hO193 (ne1P ap_FpR175_b1)
   replace O180 := O180.only hO193 (Apart.ne1 ap_M176_b1)
   replace B160 := B160.only hO193 (by first | exact ne_b157_b1 | exact ne_b1_b157.symm | (show ¬ b157 = b1; omega))
   replace hF := hF.loc hO193 (.inr g_b1)
   replace B4 := hBq
   clear hBq
   refine wpList_nil ?_
   refine fx_next ?_
   refine wp_region_lit ?_
   refine fx_val (v := .slice MU out9.length mcU) fr rfl rfl (by decide) (x_move rfl (fr.ev rfl)) ?_
   clear fr a; intro a fr
   refine fx_val (v := .slice M176 ((beginF bsL (Ent.mk ((entOf EL n.toNat).o) ((entOf EL n.toNat).sh) ((entOf EL n.toNat).busy) ((entOf EL n.toNat).asks) ((entOf EL n.toNat).kind) ((entOf EL n.toNat).waits) ((entOf EL n.toNat).told) (((entOf EL n.toNat).q).drop 1)) (((entOf EL n.toNat).q).getD 0 msg0)).2.2.length) mc177) fr rfl rfl (by decide) (x_move rfl (fr.ev rfl)) ?_
   clear fr a; intro a fr
   refine fx_append (E := msgE) (l := out9) (l' := (beginF bsL (Ent.mk ((entOf EL n.toNat).o) ((entOf EL n.toNat).sh) ((entOf EL n.toNat).busy) ((entOf EL n.toNat).asks) ((entOf EL n.toNat).kind) ((entOf EL n.toNat).waits) ((entOf EL n.toNat).told) (((entOf EL n.toNat).q).drop 1)) (((entOf EL n.toNat).q).getD 0 msg0)).2.2) elMsg fr rfl rfl (by decide) rfl (fr.ev rfl) (fr.ev rfl) (by first | rfl | (simp; done) | (simp; omega)) (by first | rfl | (simp; done) | (simp; omega)) OU O180.view (by first | omega | (simp only [List.length_append, List.length_cons, List.length_nil, List.length_drop, List.length_map]; omega) | (simp; omega)) (by first | (unfold maxLen; done) | (unfold maxLen; first | omega | (simp only [List.length_append, List.length_cons, List.length_nil]; omega) | (simp; done) | (simp; omega))) ?_
   clear fr a
   intro A194 cap195 w196 O197 hO198 mv199 a fr
   have ap2_A194_FpL : ∀ k, inA A194 k → FpL k → False := moved_apart2P mv199 (symP ap2_FpL_MU) fun _ hg => HL.lt hg
   have ap_A194_b6 : Apart A194 b6 := moved_apart mv199 ap_MU_b6 B9.lt
   have ap2_A194_Q52 : Apart2 A194 Q52 := moved_apart2 mv199 ap2_Q52_MU.symm fun _ hg => hQ55.lt hg
   have ap_A194_b63 : Apart A194 b63 := moved_apart mv199 ap_MU_b63 B66.lt
   have ap2_A194_A70 : Apart2 A194 A70 := moved_apart2 mv199 ap2_A70_MU.symm fun _ hg => O73.lt hg
   have ap_A194_b19 : Apart A194 b19 := moved_apart mv199 ap_MU_b19 B22.lt
   have ap2_A194_FpR164 : ∀ k, inA A194 k → FpR164 k → False := moved_apart2P mv199 (symP ap2_FpR164_MU) fun _ hg => H165.lt hg
   have ap2_A194_FpR175 : ∀ k, inA A194 k → FpR175 k → False := moved_apart2P mv199 (symP ap2_FpR175_MU) fun _ hg => H179.lt hg
   have ap2_A194_M176 : Apart2 A194 M176 := moved_apart2 mv199 ap2_MU_M176 fun _ hg => O180.lt hg
   have ap_A194_b157 : Apart A194 b157 := moved_apart mv199 ap_MU_b157 B160.lt
   have ap_A194_b1 : Apart A194 b1 := moved_apart mv199 ap_MU_b1 B4.lt
   have gA_A194 := gA_moved hF mv199 gA_MU
   replace HL := HL.only hO198 (fun g h1 h2 => ap2_FpL_MU g h1 h2)
   replace B9 := B9.only hO198 ap_MU_b6
   replace hQ55 := hQ55.only hO198 (fun g h1 h2 => ap2_Q52_MU g h1 h2)
   replace B66 := B66.only hO198 ap_MU_b63
   replace O73 := O73.only hO198 (fun g h1 h2 => ap2_A70_MU g h1 h2)
   replace B22 := B22.only hO198 ap_MU_b19
   replace H165 := H165.only hO198 (fun g h1 h2 => ap2_FpR164_MU g h1 h2)
   replace H179 := H179.only hO198 (fun g h1 h2 => ap2_FpR175_MU g h1 h2)
   replace O180 := O180.only hO198 (fun g h1 h2 => ap2_MU_M176.symm g h1 h2)
   replace B160 := B160.only hO198 ap_MU_b157
   replace B4 := B4.only hO198 ap_MU_b1
   replace hF := hF.locA hO198 gA_MU
   clear OU
   refine fx_val (v := .slice A194 ((out9 ++ ((beginF bsL (Ent.mk ((entOf EL n.toNat).o) ((entOf EL n.toNat).sh) ((entOf EL n.toNat).busy) ((entOf EL n.toNat).asks) ((entOf EL n.toNat).kind) ((entOf EL n.toNat).waits) ((entOf EL n.toNat).told) (((entOf EL n.toNat).q).drop 1)) (((entOf EL n.toNat).q).getD 0 msg0)).2.2)).length) cap195) fr rfl rfl (by decide) (x_assign rfl (fr.ev rfl)) ?_
   clear fr a; intro a fr
   refine wpList_nil ?_
   refine fx_blk ?_
   refine fx_next ?_
   have hbl := begin_len (bs := bsL) (d := { (entOf EL n.toNat) with q := (entOf EL n.toNat).q.drop 1 }) (m := (entOf EL n.toNat).q.getD 0 msg0)
   have hbq := begin_qn (bs := bsL) (d := (entOf EL n.toNat)) (m := (entOf EL n.toNat).q.getD 0 msg0)
   have hnew : entOf ((EL.set n.toNat (Ent.mk ((entOf EL n.toNat).o) ((entOf EL n.toNat).sh) ((entOf EL n.toNat).busy) ((entOf EL n.toNat).asks) ((entOf EL n.toNat).kind) ((entOf EL n.toNat).waits) ((entOf EL n.toNat).told) (((entOf EL n.toNat).q).drop 1))).set n.toNat (beginF bsL (Ent.mk ((entOf EL n.toNat).o) ((entOf EL n.toNat).sh) ((entOf EL n.toNat).busy) ((entOf EL n.toNat).asks) ((entOf EL n.toNat).kind) ((entOf EL n.toNat).waits) ((entOf EL n.toNat).told) (((entOf EL n.toNat).q).drop 1)) (((entOf EL n.toNat).q).getD 0 msg0)).1) n.toNat = (beginF bsL (Ent.mk ((entOf EL n.toNat).o) ((entOf EL n.toNat).sh) ((entOf EL n.toNat).busy) ((entOf EL n.toNat).asks) ((entOf EL n.toNat).kind) ((entOf EL n.toNat).waits) ((entOf EL n.toNat).told) (((entOf EL n.toNat).q).drop 1)) (((entOf EL n.toNat).q).getD 0 msg0)).1 := by rw [entOf_set (by simp only [List.length_set]; omega), if_pos rfl]
   change (beginF bsL (Ent.mk ((entOf EL n.toNat).o) ((entOf EL n.toNat).sh) ((entOf EL n.toNat).busy) ((entOf EL n.toNat).asks) ((entOf EL n.toNat).kind) ((entOf EL n.toNat).waits) ((entOf EL n.toNat).told) (((entOf EL n.toNat).q).drop 1)) (((entOf EL n.toNat).q).getD 0 msg0)).2.2.length ≤ 4 at hbl
   change (beginF bsL (Ent.mk ((entOf EL n.toNat).o) ((entOf EL n.toNat).sh) ((entOf EL n.toNat).busy) ((entOf EL n.toNat).asks) ((entOf EL n.toNat).kind) ((entOf EL n.toNat).waits) ((entOf EL n.toNat).told) (((entOf EL n.toNat).q).drop 1)) (((entOf EL n.toNat).q).getD 0 msg0)).1.q.length = _ at hbq
   exact ⟨_, (by rw [hnew]; omega), FpR175, A171, cap172, B173, cb174, ((beginF bsL (Ent.mk ((entOf EL n.toNat).o) ((entOf EL n.toNat).sh) ((entOf EL n.toNat).busy) ((entOf EL n.toNat).asks) ((entOf EL n.toNat).kind) ((entOf EL n.toNat).waits) ((entOf EL n.toNat).told) (((entOf EL n.toNat).q).drop 1)) (((entOf EL n.toNat).q).getD 0 msg0)).2.1), ((EL.set n.toNat (Ent.mk ((entOf EL n.toNat).o) ((entOf EL n.toNat).sh) ((entOf EL n.toNat).busy) ((entOf EL n.toNat).asks) ((entOf EL n.toNat).kind) ((entOf EL n.toNat).waits) ((entOf EL n.toNat).told) (((entOf EL n.toNat).q).drop 1))).set n.toNat (beginF bsL (Ent.mk ((entOf EL n.toNat).o) ((entOf EL n.toNat).sh) ((entOf EL n.toNat).busy) ((entOf EL n.toNat).asks) ((entOf EL n.toNat).kind) ((entOf EL n.toNat).waits) ((entOf EL n.toNat).told) (((entOf EL n.toNat).q).drop 1)) (((entOf EL n.toNat).q).getD 0 msg0)).1), X178, (Ent.mk ((entOf EL n.toNat).o) ((entOf EL n.toNat).sh) ((entOf EL n.toNat).busy) ((entOf EL n.toNat).asks) ((entOf EL n.toNat).kind) ((entOf EL n.toNat).waits) ((entOf EL n.toNat).told) (((entOf EL n.toNat).q).drop 1)), A70, cap71, A194, cap195, (out9 ++ ((beginF bsL (Ent.mk ((entOf EL n.toNat).o) ((entOf EL n.toNat).sh) ((entOf EL n.toNat).busy) ((entOf EL n.toNat).asks) ((entOf EL n.toNat).kind) ((entOf EL n.toNat).waits) ((entOf EL n.toNat).told) (((entOf EL n.toNat).q).drop 1)) (((entOf EL n.toNat).q).getD 0 msg0)).2.2)), rfl, fr.sub ⟨rfl, rfl, rfl, rfl, rfl, trivial⟩, hF, H179, O197, B4, B22, B9, (by rw [hnew]; exact (drain_step hgo.1 hgo2 _).trans hp0), (by rw [hnew]; exact fun x hx => hp1 x (begin_ql hx)), (by rw [hnew, List.length_append]; omega), (by simp only [List.length_set]; exact hp3), (begin_bs.trans hp4), (fun d => by rw [List.set_set, List.set_set]; exact hp5 d), mF_FpR175, (symP ap2_A194_FpR175), ap_FpR175_b1, ap_FpR175_b19, ap_FpR175_b6, ap_A194_b1, ap_A194_b19, ap_A194_b6, gA_A194⟩
 ·skip
  have hc57s := hc57
  try simp at hc57s
  refine wp_exit ?_
  refine fx_xt ?_
  refine fx_xt ?_
  refine fx_xx ?_
  refine fx_next ?_
  refine wp_seq ?_
  refine wp_region_lit ?_
  refine fx_val (v := .agg (#[.slice AL bsL.length capL, .slice BL EL.length cbL])) fr rfl rfl (by decide) (x_loadS ag28 rfl (fr.ev rfl) rfl B4.range) ?_
  clear fr a; intro a fr
  refine fx_val (v := .slice MU out9.length mcU) fr rfl rfl (by decide) (x_move rfl (fr.ev rfl)) ?_
  clear fr a; intro a fr
  refine fx_storeS sz28 rfl rfl rfl (fr.ev rfl) (fr.ev rfl) (by simp [Value.oneCell']) B9 rfl rfl fun w200 hO201 hBq => ?_
  replace HL := HL.only hO201 (ne1P ap_FpL_b6)
  replace OU := OU.only hO201 (Apart.ne1 ap_MU_b6)
  replace B4 := B4.only hO201 (by first | exact ne_b1_b6 | exact ne_b6_b1.symm | (show ¬ b1 = b6; omega))
  replace B22 := B22.only hO201 (by first | exact ne_b19_b6 | exact ne_b6_b19.symm | (show ¬ b19 = b6; omega))
  replace hQ55 := hQ55.only hO201 (Apart.ne1 ap_Q52_b6)
  replace hF := hF.loc hO201 (.inr g_b6)
  replace B9 := hBq
  clear hBq
  refine fx_val (v := .slice MU out9.length mcU) fr rfl rfl (by decide) (x_assign rfl (fr.ev rfl)) ?_
  clear fr a; intro a fr
  refine fx_val (v := .int .i64 0) fr rfl rfl (by decide) (x_assign rfl rfl) ?_
  clear fr a; intro a fr
  refine wpList_nil ?_
  refine fx_next ?_
  refine wp_ret ?_
  refine fx_ret fr [.cell 4 28, .tmp 5, .tmp 6] [.agg (#[.slice AL bsL.length capL, .slice BL EL.length cbL]), .slice MU out9.length mcU, .int .i64 0] rfl ⟨⟨_, rfl, x_loadV ag28 rfl B9.range⟩, rfl, rfl, trivial⟩ rfl ?_
  have e0 := hp0
  rw [drain_end (drain_stop hc57)] at e0
  have ey : (drainF (entOf E n.toNat).q bs (Ent.mk (entOf E n.toNat).o (entOf E n.toNat).sh false 0 0 0 false (entOf E n.toNat).q)) = (entOf EL n.toNat, bsL, out9) := e0.symm
  rw [ey]
  dsimp only
  have hEL : E.set n.toNat (entOf EL n.toNat) = EL := by rw [← hp5, set_self (by omega)]
  rw [hEL]
  exact ⟨_, rfl, AL, capL, BL, cbL, FpL, MU, mcU, rfl, ⟨_, HL⟩, OU, mF_FpL, (fun g hg => (gA_MU g hg).resolve_left (fun h => h)), ap2_FpL_MU, hF⟩
end Go.Proofs.Ytdiaemlgghfecaa
