/-
  Part 7 of what the claim stands on: walks through the code, plain laws.
-/
import Derived.Test.YtdiaemlgghfecaaZPlay6
namespace Go.Proofs.Ytdiaemlgghfecaa
open Go.RowKit
theorem idle_step (E : List Ent) (i : Nat) (h : i < E.length) : idleB (E.take (i + 1)) = (idleB (E.take i) && !(entOf E i).busy) := by
  have he : entOf E i = E[i] := by simp [entOf, List.getD, h]
  unfold idleB
  rw [List.take_succ_eq_append_getElem h, List.all_append, he]
  simp
set_option maxRecDepth 100000 in
set_option maxHeartbeats 4000000 in
theorem same_c {w : World} {Fp FpR : Nat → Prop} {b : Nat} {h : HD} {A B : Option Addr} {cap cb : Nat} (H : HomeAt w Fp b h) (R : RefH w FpR A cap B cb h) (ap2_Fp_FpR : ∀ k, Fp k → FpR k → False) {j : Nat} (hHI : HI j h) (hj : j ≤ 100000)  : Calls Try.prog 21 #[.pointer (some ⟨b, 0, none⟩), .agg (#[.slice A h.bs.length cap, .slice B h.E.length cb])] w (Ret fun v w' => v = .bool true ∧ New w w') := by
  obtain ⟨X, R⟩ := R
  replace R : RefAt w FpR A cap B cb (HD.mk h.bs h.E) X := R
  have hXl : X.length = h.E.length := R.len
  have hHl := H.len
  have hF := Only.refl (fun _ => False) w
  refine fx_enter Try.func21 rfl (N := (71, [])) (T := [(0, .pointer (some ⟨b, 0, none⟩)), (1, .agg (#[.slice A h.bs.length cap, .slice B h.E.length cb]))]) rfl (show 2 ≤ 71 by decide) ⟨rfl, rfl, trivial⟩ fun a fr => ?_
  refine wp_seq ?_
  refine wp_region_lit ?_  -- region 0
  refine fx_new fr rfl rfl (by first | decide | simp) (x_box (cs := #[.slice A h.bs.length cap, .slice B h.E.length cb]) rfl (fr.ev rfl) rfl) ?_
  clear fr a
  intro b1 w2 hN3 B4 hb5 a fr
  have ap_Fp_b1 : ¬ Fp b1 := H.apart hb5
  have ap_FpR_b1 : ¬ FpR b1 := R.apart hb5
  have g_b1 := Nat.le_trans hF.size hb5
  replace H := H.new hN3
  replace R := R.new hN3
  replace hF := hF.trNew hN3
  refine fx_val (v := .bool false) fr rfl rfl (by first | decide | simp) (x_assign rfl rfl) ?_
  clear fr a; intro a fr
  refine wpList_nil ?_
  refine fx_next ?_
  refine wp_seq ?_
  refine wp_region_lit ?_  -- region 1
  refine fx_val (v := .pointer (some ⟨b, 0, none⟩)) fr rfl rfl (by first | decide | simp) (x_move rfl (fr.ev rfl)) ?_
  clear fr a; intro a fr
  refine fx_call fr rfl rfl (by first | decide | simp) (x_call (vs := [.pointer (some ⟨b, 0, none⟩)]) rfl rfl ⟨(fr.ev rfl), trivial⟩ Try.func24 nm24 rfl) (memory_h H) ?_
  clear fr a
  rintro v w12 ⟨bi6, ig7, cap8, rfl, hI9, hb10, hg11, hN13⟩ a fr
  have ap_Fp_bi6 : ¬ Fp bi6 := H.apart hb10
  have ap_FpR_bi6 : ¬ FpR bi6 := R.apart hb10
  have ne_b1_bi6 : NE b1 bi6 := NE.mk (Nat.lt_of_lt_of_le B4.lt hb10)
  have g_bi6 := Nat.le_trans hF.size hb10
  have ap_Fp_ig7 : ¬ Fp ig7 := H.apart hg11
  have ap_FpR_ig7 : ¬ FpR ig7 := R.apart hg11
  have ne_b1_ig7 : NE b1 ig7 := NE.mk (Nat.lt_of_lt_of_le B4.lt hg11)
  have g_ig7 := Nat.le_trans hF.size hg11
  replace H := H.new hN13
  replace R := R.new hN13
  replace B4 := B4.new hN13
  replace hF := hF.trNew hN13
  have ne_bi6_ig7 : NE bi6 ig7 := hI9.ne
  refine fx_val (v := .pointer (some ⟨bi6, 0, none⟩)) fr rfl rfl (by first | decide | simp) (x_assign rfl (fr.ev rfl)) ?_
  clear fr a; intro a fr
  refine wpList_nil ?_
  refine fx_next ?_
  refine wp_seq ?_
  refine wp_seq ?_
  refine fx_held (n := 19) (fun w => HomeAt w Fp b h ∧ RefAt w FpR A cap B cb (HD.mk h.bs h.E) X ∧ Blk w b1 28 (#[.slice A h.bs.length cap, .slice B h.E.length cb]) ∧ Img 0 w bi6 ig7 cap8 h.bs ∧ True) (by kernel_rfl) rfl ?_  -- region 2
  intro w14 hN15
  replace H := H.new hN15
  replace R := R.new hN15
  replace B4 := B4.new hN15
  replace hI9 := hI9.new hN15
  replace hF := hF.trNew hN15
  refine fx_take (i := 0) (v := .pointer (some ⟨bi6, 0, none⟩)) fr rfl (by kernel_rfl) rfl rfl (by first | decide | simp) (fun _ _ _ h => h) (fun _ ⟨H, R, B4, hI9, _⟩ => x_move rfl (fr.ev rfl)) ⟨H, R, B4, hI9, trivial⟩ ?_
  clear fr a; intro a fr
  refine fx_take (i := 1) (v := .bool false) fr rfl (by kernel_rfl) rfl rfl (by first | decide | simp) (fun _ _ _ h => h) (fun _ ⟨H, R, B4, hI9, _⟩ => x_peql Try.underlying61 rfl (fr.ev rfl) rfl rfl) ⟨H, R, B4, hI9, trivial⟩ ?_
  clear fr a; intro a fr
  refine fx_take (i := 2) (v := .bool false) fr rfl (by kernel_rfl) rfl rfl (by first | decide | simp) (fun _ _ _ h => h) (fun _ ⟨H, R, B4, hI9, _⟩ => x_move rfl (fr.ev rfl)) ⟨H, R, B4, hI9, trivial⟩ ?_
  clear fr a; intro a fr
  refine fx_take (i := 3) (v := .pointer (some ⟨bi6, 0, none⟩)) fr rfl (by kernel_rfl) (fr.want rfl rfl rfl) rfl (by first | decide | simp) (fun _ _ _ h => h) (fun _ ⟨H, R, B4, hI9, _⟩ => x_move rfl (fr.ev rfl)) ⟨H, R, B4, hI9, trivial⟩ ?_
  clear fr a; intro a fr
  refine fx_take (i := 6) (v := .pointer (some ⟨b1, 0, none⟩)) fr rfl (by kernel_rfl) (fr.want rfl rfl rfl) rfl (by first | decide | simp) (fun _ _ _ h => h) (fun _ ⟨H, R, B4, hI9, _⟩ => x_fieldAddr fo28_0 rfl (fr.ev rfl) rfl) ⟨H, R, B4, hI9, trivial⟩ ?_
  clear fr a; intro a fr
  refine fx_take (i := 7) (v := .slice A h.bs.length cap) fr rfl (by kernel_rfl) (fr.want rfl rfl rfl) rfl (by first | decide | simp) (fun _ _ _ h => h) (fun _ ⟨H, R, B4, hI9, _⟩ => x_load1 pl22 rfl (fr.ev rfl) (B4.cell 0 rfl)) ⟨H, R, B4, hI9, trivial⟩ ?_
  clear fr a; intro a fr
  refine fx_take (i := 8) (v := .string (str h.bs)) fr rfl (by kernel_rfl) (fr.want rfl rfl rfl) rfl (by first | decide | simp) (fun _ _ _ h => h) (fun _ ⟨H, R, B4, hI9, _⟩ => x_convStr rfl (fr.ev rfl) R.vb (by omega)) ⟨H, R, B4, hI9, trivial⟩ ?_
  clear fr a; intro a fr
  refine fx_one (i := 4) (by kernel_rfl) (fx_op rfl ?_)
  refine fx_call fr (fr.want rfl rfl rfl) rfl (by first | decide | simp) (x_call (vs := [.pointer (some ⟨bi6, 0, none⟩)]) rfl rfl ⟨(fr.ev rfl), trivial⟩ Try.func46 nm46 rfl) (hbytes_c hI9) ?_
  clear fr a
  rintro v w20 ⟨A16, cap17, rfl, hVb18, hA19, hN21⟩ a fr
  have ap2_Fp_A16 : ∀ k, Fp k → inA A16 k → False := symP (new_apart2P hA19 fun _ hg => H.lt hg)
  have ap2_FpR_A16 : ∀ k, FpR k → inA A16 k → False := symP (new_apart2P hA19 fun _ hg => R.lt hg)
  have ap_A16_b1 : Apart A16 b1 := new_apart hA19 B4.lt
  have ap_A16_bi6 : Apart A16 bi6 := new_apart hA19 hI9.lt.1
  have ap_A16_ig7 : Apart A16 ig7 := new_apart hA19 hI9.lt.2
  have gA_A16 := gA_new hF hA19
  have gN_A16 := fun g (hg : inA A16 g) => Nat.le_trans hF.size (hA19 g hg)
  replace H := H.new hN21
  replace R := R.new hN21
  replace B4 := B4.new hN21
  replace hI9 := hI9.new hN21
  replace hF := hF.trNew hN21
  refine wpList_nil ?_
  refine ⟨⟨H, R, B4, hI9, trivial⟩, ?_⟩
  refine fx_one (i := 5) (by kernel_rfl) (fx_op rfl ?_)
  refine fx_val (v := .string (str h.bs)) fr (fr.want rfl rfl rfl) rfl (by first | decide | simp) (x_convStr rfl (fr.ev rfl) hVb18 (by omega)) ?_
  clear fr a; intro a fr
  refine wpList_nil ?_
  refine ⟨⟨H, R, B4, hI9, trivial⟩, ?_⟩
  refine fx_take (i := 9) (v := .bool false) fr rfl (by kernel_rfl) (fr.want rfl rfl rfl) rfl (by first | decide | simp) (fun _ _ _ h => h) (fun _ ⟨H, R, B4, hI9, _⟩ => x_neqStr rfl (fr.ev rfl) (fr.ev rfl)) ⟨H, R, B4, hI9, trivial⟩ ?_
  clear fr a; intro a fr
  refine fx_take (i := 10) (v := .bool false) fr rfl (by kernel_rfl) rfl rfl (by first | decide | simp) (fun _ _ _ h => h) (fun _ ⟨H, R, B4, hI9, _⟩ => x_pick_f rfl (fr.ev rfl) (fr.ev rfl)) ⟨H, R, B4, hI9, trivial⟩ ?_
  clear fr a; intro a fr
  refine fx_take (i := 11) (v := .bool false) fr rfl (by kernel_rfl) rfl rfl (by first | decide | simp) (fun _ _ _ h => h) (fun _ ⟨H, R, B4, hI9, _⟩ => x_move rfl (fr.ev rfl)) ⟨H, R, B4, hI9, trivial⟩ ?_
  clear fr a; intro a fr
  refine fx_take (i := 12) (v := .pointer (some ⟨b, 0, none⟩)) fr rfl (by kernel_rfl) (fr.want rfl rfl rfl) rfl (by first | decide | simp) (fun _ _ _ h => h) (fun _ ⟨H, R, B4, hI9, _⟩ => x_move rfl (fr.ev rfl)) ⟨H, R, B4, hI9, trivial⟩ ?_
  clear fr a; intro a fr
  refine fx_take (i := 14) (v := .pointer (some ⟨b1, 1, none⟩)) fr rfl (by kernel_rfl) (fr.want rfl rfl rfl) rfl (by first | decide | simp) (fun _ _ _ h => h) (fun _ ⟨H, R, B4, hI9, _⟩ => x_fieldAddr fo28_1 rfl (fr.ev rfl) rfl) ⟨H, R, B4, hI9, trivial⟩ ?_
  clear fr a; intro a fr
  refine fx_take (i := 15) (v := .slice B h.E.length cb) fr rfl (by kernel_rfl) (fr.want rfl rfl rfl) rfl (by first | decide | simp) (fun _ _ _ h => h) (fun _ ⟨H, R, B4, hI9, _⟩ => x_load1 pl26 rfl (fr.ev rfl) (B4.cell 1 rfl)) ⟨H, R, B4, hI9, trivial⟩ ?_
  clear fr a; intro a fr
  refine fx_take (i := 16) (v := .int .i64 ((h.E.length : Nat) : Int)) fr rfl (by kernel_rfl) (fr.want rfl rfl rfl) rfl (by first | decide | simp) (fun _ _ _ h => h) (fun _ ⟨H, R, B4, hI9, _⟩ => x_len Try.underlying26 rfl (fr.ev rfl)) ⟨H, R, B4, hI9, trivial⟩ ?_
  clear fr a; intro a fr
  refine fx_one (i := 13) (by kernel_rfl) (fx_op rfl ?_)
  refine fx_call fr (fr.want rfl rfl rfl) rfl (by first | decide | simp) (x_call (vs := [.pointer (some ⟨b, 0, none⟩)]) rfl rfl ⟨(fr.ev rfl), trivial⟩ Try.func10 nm10 rfl) (lines_h H) ?_
  clear fr a
  rintro v w9 ⟨rfl, hw9⟩ a fr
  obtain rfl := hw9.symm
  refine wpList_nil ?_
  refine ⟨⟨H, R, B4, hI9, trivial⟩, ?_⟩
  refine fx_take (i := 17) (v := .bool false) fr rfl (by kernel_rfl) (fr.want rfl rfl rfl) rfl (by first | decide | simp) (fun _ _ _ h => h) (fun _ ⟨H, R, B4, hI9, _⟩ => x_neq rfl (fr.ev rfl) (fr.ev rfl) (by simp)) ⟨H, R, B4, hI9, trivial⟩ ?_
  clear fr a; intro a fr
  refine fx_take (i := 18) (v := .bool false) fr rfl (by kernel_rfl) rfl rfl (by first | decide | simp) (fun _ _ _ h => h) (fun _ ⟨H, R, B4, hI9, _⟩ => x_pick_f rfl (fr.ev rfl) (fr.ev rfl)) ⟨H, R, B4, hI9, trivial⟩ ?_
  clear fr a; intro a fr
  refine fx_hdone (by kernel_rfl) ?_
  refine fx_next ?_
  refine fx_cond_f fr rfl ?_
  refine wp_skip ?_
  refine fx_next ?_
  refine wp_seq ?_
  refine wp_region_lit ?_  -- region 4
  refine fx_val (v := .bool true) fr rfl rfl (by first | decide | simp) (x_assign rfl rfl) ?_
  clear fr a; intro a fr
  refine wpList_nil ?_
  refine fx_next ?_
  refine wp_seq ?_
  refine wp_seq ?_
  refine wp_region_lit ?_  -- region 5
  refine fx_val (v := .int .i64 0) fr rfl rfl (by first | decide | simp) (x_assign rfl rfl) ?_
  clear fr a; intro a fr
  refine wpList_nil ?_
  refine fx_next ?_
  refine wp_block ?_
  refine fx_loop (fun nM a wL => ∃ i : Nat, ∃ idl : Bool, nM = h.E.length - i ∧ Fr (71, []) [(0, .pointer (some ⟨b, 0, none⟩)), (3, .pointer (some ⟨b1, 0, none⟩)), (4, .bool false), (6, .bool (idl)), (7, .int .i64 ((i : Nat) : Int))] a ∧ Only (fun _ => False) w wL ∧ HomeAt wL Fp b h ∧ RefAt wL FpR A cap B cb (HD.mk h.bs h.E) X ∧ Blk wL b1 28 (#[.slice A h.bs.length cap, .slice B h.E.length cb]) ∧ i ≤ h.E.length ∧ idl = idleB (h.E.take i)) (n0 := _) ⟨0, true, rfl, fr.sub ⟨rfl, rfl, rfl, rfl, rfl, trivial⟩, hF, H, R, B4, Nat.zero_le _, rfl⟩ ?_
  rintro n25 a w24 ⟨i, idl, rfl, fr, hF, H, R, B4, hi, hidl⟩
  refine wp_seq ?_
  refine wp_seq ?_
  refine wp_region_lit ?_  -- region 6
  refine fx_val (v := .int .i64 ((i : Nat) : Int)) fr rfl rfl (by first | decide | simp) (x_move rfl (fr.ev rfl)) ?_
  clear fr a; intro a fr
  refine fx_val (v := .pointer (some ⟨b1, 1, none⟩)) fr rfl rfl (by first | decide | simp) (x_fieldAddr fo28_1 rfl (fr.ev rfl) rfl) ?_
  clear fr a; intro a fr
  refine fx_val (v := .slice B h.E.length cb) fr rfl rfl (by first | decide | simp) (x_load1 pl26 rfl (fr.ev rfl) (B4.cell 1 rfl)) ?_
  clear fr a; intro a fr
  refine fx_val (v := .int .i64 ((h.E.length : Nat) : Int)) fr rfl rfl (by first | decide | simp) (x_len Try.underlying26 rfl (fr.ev rfl)) ?_
  clear fr a; intro a fr
  refine fx_val (v := .bool (decide (((i : Nat) : Int) < ((h.E.length : Nat) : Int)))) fr rfl rfl (by first | decide | simp) (x_lss rfl (fr.ev rfl) (fr.ev rfl) rfl) ?_
  clear fr a; intro a fr
  refine wpList_nil ?_
  refine fx_next ?_
  refine fx_cond fr rfl (fun hc26 => ?_) (fun hc26 => ?_)
  · skip
    have hc26 := of_decide_eq_true hc26
    refine wp_skip ?_
    refine fx_next ?_
    refine wp_seq ?_
    refine wp_block ?_
    refine wp_seq ?_
    refine wp_region_lit ?_  -- region 8
    refine fx_val (v := .pointer (some ⟨b, 0, none⟩)) fr rfl rfl (by first | decide | simp) (x_move rfl (fr.ev rfl)) ?_
    clear fr a; intro a fr
    refine fx_val (v := .int .i64 ((i : Nat) : Int)) fr rfl rfl (by first | decide | simp) (x_move rfl (fr.ev rfl)) ?_
    clear fr a; intro a fr
    refine fx_val (v := .int .u32 ((i : Nat) : Int)) fr rfl rfl (by first | decide | simp) (x_convert Try.underlying3 Try.underlying24 rfl (fr.ev rfl) (u32w (r := ((i : Nat) : Int)) rfl (by omega))) ?_
    clear fr a; intro a fr
    refine fx_call fr rfl rfl (by first | decide | simp) (x_call (vs := [.pointer (some ⟨b, 0, none⟩), .int .u32 ((i : Nat) : Int)]) rfl rfl ⟨(fr.ev rfl), (fr.ev rfl), trivial⟩ Try.func13 nm13 rfl) (entry_h H ((i : Nat) : Int) (by omega) (by omega) (hHI.all (by omega) _)) ?_
    clear fr a
    rintro v w31 ⟨Q27, qc28, rfl, OQ29, hA30, hN32⟩ a fr
    have ap2_Fp_Q27 : ∀ k, Fp k → inA Q27 k → False := symP (new_apart2P hA30 fun _ hg => H.lt hg)
    have ap2_FpR_Q27 : ∀ k, FpR k → inA Q27 k → False := symP (new_apart2P hA30 fun _ hg => R.lt hg)
    have ap_Q27_b1 : Apart Q27 b1 := new_apart hA30 B4.lt
    have gA_Q27 := gA_new hF hA30
    have gN_Q27 := fun g (hg : inA Q27 g) => Nat.le_trans hF.size (hA30 g hg)
    replace H := H.new hN32
    replace R := R.new hN32
    replace B4 := B4.new hN32
    replace hF := hF.trNew hN32
    refine fx_val (v := .tuple #[.agg (entA (entOf h.E ((i : Nat) : Int).toNat) (.slice Q27 ((entOf h.E ((i : Nat) : Int).toNat).q.length) qc28)), .int .i64 0]) fr rfl rfl (by first | decide | simp) (x_move rfl (fr.ev rfl)) ?_
    clear fr a; intro a fr
    refine fx_val (v := .agg (entA (entOf h.E ((i : Nat) : Int).toNat) (.slice Q27 ((entOf h.E ((i : Nat) : Int).toNat).q.length) qc28))) fr rfl rfl (by first | decide | simp) (x_extract rfl (fr.ev rfl) rfl) ?_
    clear fr a; intro a fr
    refine fx_val (v := .int .i64 0) fr rfl rfl (by first | decide | simp) (x_extract rfl (fr.ev rfl) rfl) ?_
    clear fr a; intro a fr
    refine fx_new fr rfl rfl (by first | decide | simp) (x_alloc (z := .agg (#[.int .i64 0, .bool false, .bool false, .bool false, .bool false, .bool false, .int .i64 0, .int .i64 0, .int .i64 0, .bool false, .slice none 0 0])) (cs := #[.int .i64 0, .bool false, .bool false, .bool false, .bool false, .bool false, .int .i64 0, .int .i64 0, .int .i64 0, .bool false, .slice none 0 0]) rfl (by kernel_rfl) rfl) ?_
    clear fr a
    intro b33 w34 hN35 B36 hb37 a fr
    have ap_Fp_b33 : ¬ Fp b33 := H.apart hb37
    have ap_FpR_b33 : ¬ FpR b33 := R.apart hb37
    have ne_b1_b33 : NE b1 b33 := NE.mk (Nat.lt_of_lt_of_le B4.lt hb37)
    have ap_Q27_b33 : Apart Q27 b33 := OQ29.apart hb37
    have g_b33 := Nat.le_trans hF.size hb37
    replace H := H.new hN35
    replace R := R.new hN35
    replace B4 := B4.new hN35
    replace OQ29 := OQ29.new hN35
    replace hF := hF.trNew hN35
    refine fx_storeS sz42 rfl rfl rfl (fr.ev rfl) (fr.ev rfl) (ent_all _ _ _ _) B36 rfl rfl fun w38 hO39 hBq => ?_
    replace H := H.only hO39 (ne1P ap_Fp_b33)
    replace R := R.only hO39 (ne1P ap_FpR_b33)
    replace B4 := B4.only hO39 (by first | exact ne_b1_b33 | exact ne_b33_b1.symm | (show ¬ b1 = b33; omega))
    replace OQ29 := OQ29.only hO39 (Apart.ne1 ap_Q27_b33)
    replace hF := hF.loc hO39 (.inr g_b33)
    replace B36 := hBq
    clear hBq
    refine fx_val (v := .int .i64 0) fr rfl rfl (by first | decide | simp) (x_assign rfl (fr.ev rfl)) ?_
    clear fr a; intro a fr
    refine wpList_nil ?_
    refine fx_next ?_
    refine wp_seq ?_
    refine wp_seq ?_
    obtain ⟨Q40, qc41, hat42, hQ43, hQF44⟩ := R.at_ i (by omega)
    dsimp only at hat42 hQ43
    have ap_Q40_b1 : Apart Q40 b1 := fun h => ap_FpR_b1 (hQF44 _ h)
    have ap2_Q40_Q27 : Apart2 Q40 Q27 := fun k h1 h2 => ap2_FpR_Q27 k (hQF44 k h1) h2
    have ap_Q40_b33 : Apart Q40 b33 := fun h => ap_FpR_b33 (hQF44 _ h)
    refine fx_held (n := 12) (fun w => HomeAt w Fp b h ∧ RefAt w FpR A cap B cb (HD.mk h.bs h.E) X ∧ Blk w b1 28 (#[.slice A h.bs.length cap, .slice B h.E.length cb]) ∧ Own msgE w Q27 qc28 ((entOf h.E ((i : Nat) : Int).toNat).q) ∧ Blk w b33 42 (entA (entOf h.E ((i : Nat) : Int).toNat) (.slice Q27 ((entOf h.E ((i : Nat) : Int).toNat).q.length) qc28)) ∧ View msgE w Q40 qc41 ((entOf h.E i).q) ∧ True) (by kernel_rfl) rfl ?_  -- region 9
    intro w45 hN46
    replace H := H.new hN46
    replace R := R.new hN46
    replace B4 := B4.new hN46
    replace OQ29 := OQ29.new hN46
    replace B36 := B36.new hN46
    replace hQ43 := hQ43.new hN46
    replace hF := hF.trNew hN46
    refine fx_take (i := 0) (v := .int .i64 0) fr rfl (by kernel_rfl) rfl rfl (by first | decide | simp) (fun _ _ _ h => h) (fun _ ⟨H, R, B4, OQ29, B36, hQ43, _⟩ => x_move rfl (fr.ev rfl)) ⟨H, R, B4, OQ29, B36, hQ43, trivial⟩ ?_
    clear fr a; intro a fr
    refine fx_take (i := 1) (v := .bool false) fr rfl (by kernel_rfl) rfl rfl (by first | decide | simp) (fun _ _ _ h => h) (fun _ ⟨H, R, B4, OQ29, B36, hQ43, _⟩ => x_neq rfl (fr.ev rfl) rfl rfl) ⟨H, R, B4, OQ29, B36, hQ43, trivial⟩ ?_
    clear fr a; intro a fr
    refine fx_take (i := 2) (v := .bool false) fr rfl (by kernel_rfl) rfl rfl (by first | decide | simp) (fun _ _ _ h => h) (fun _ ⟨H, R, B4, OQ29, B36, hQ43, _⟩ => x_move rfl (fr.ev rfl)) ⟨H, R, B4, OQ29, B36, hQ43, trivial⟩ ?_
    clear fr a; intro a fr
    refine fx_take (i := 3) (v := .agg (entA (entOf h.E ((i : Nat) : Int).toNat) (.slice Q27 ((entOf h.E ((i : Nat) : Int).toNat).q.length) qc28))) fr rfl (by kernel_rfl) (fr.want rfl rfl rfl) rfl (by first | decide | simp) (fun _ _ _ h => h) (fun _ ⟨H, R, B4, OQ29, B36, hQ43, _⟩ => x_loadS ag42 rfl (fr.ev rfl) rfl B36.range) ⟨H, R, B4, OQ29, B36, hQ43, trivial⟩ ?_
    clear fr a; intro a fr
    refine fx_take (i := 4) (v := .pointer (some ⟨b1, 1, none⟩)) fr rfl (by kernel_rfl) (fr.want rfl rfl rfl) rfl (by first | decide | simp) (fun _ _ _ h => h) (fun _ ⟨H, R, B4, OQ29, B36, hQ43, _⟩ => x_fieldAddr fo28_1 rfl (fr.ev rfl) rfl) ⟨H, R, B4, OQ29, B36, hQ43, trivial⟩ ?_
    clear fr a; intro a fr
    refine fx_take (i := 5) (v := .slice B h.E.length cb) fr rfl (by kernel_rfl) (fr.want rfl rfl rfl) rfl (by first | decide | simp) (fun _ _ _ h => h) (fun _ ⟨H, R, B4, OQ29, B36, hQ43, _⟩ => x_load1 pl26 rfl (fr.ev rfl) (B4.cell 1 rfl)) ⟨H, R, B4, OQ29, B36, hQ43, trivial⟩ ?_
    clear fr a; intro a fr
    refine fx_take (i := 6) (v := .int .i64 ((i : Nat) : Int)) fr rfl (by kernel_rfl) (fr.want rfl rfl rfl) rfl (by first | decide | simp) (fun _ _ _ h => h) (fun _ ⟨H, R, B4, OQ29, B36, hQ43, _⟩ => x_move rfl (fr.ev rfl)) ⟨H, R, B4, OQ29, B36, hQ43, trivial⟩ ?_
    clear fr a; intro a fr
    obtain ⟨g47, o48, hA49⟩ := (R.ve).some_ (by first | omega | decide)
    refine fx_take (i := 7) (v := .pointer (some ⟨g47, o48 + i * 11, none⟩)) fr rfl (by kernel_rfl) (fr.want rfl rfl rfl) rfl (by first | decide | simp) (fun _ _ _ h => h) (fun _ ⟨H, R, B4, OQ29, B36, hQ43, _⟩ => x_indexV Try.underlying26 sz42 rfl (fr.ev rfl) hA49 (fr.ev rfl) (by first | omega | decide) rfl) ⟨H, R, B4, OQ29, B36, hQ43, trivial⟩ ?_
    clear fr a; intro a fr
    refine fx_take (i := 8) (v := .agg (entA (entOf h.E i) (.slice Q40 ((entOf h.E i).q.length) qc41))) fr rfl (by kernel_rfl) (fr.want rfl rfl rfl) rfl (by first | decide | simp) (fun _ _ _ h => h) (fun _ ⟨H, R, B4, OQ29, B36, hQ43, _⟩ => x_loadE (E := ecE) (p := ecOf (entOf h.E i) Q40 qc41) ag42 rfl rfl (fr.ev rfl) (R.cell hat42 (by omega) hA49)) ⟨H, R, B4, OQ29, B36, hQ43, trivial⟩ ?_
    clear fr a; intro a fr
    refine fx_one (i := 9) (by kernel_rfl) (fx_op rfl ?_)
    refine fx_call fr (fr.want rfl rfl rfl) rfl (by first | decide | simp) (x_call (vs := [.agg (entA (entOf h.E ((i : Nat) : Int).toNat) (.slice Q27 ((entOf h.E ((i : Nat) : Int).toNat).q.length) qc28)), .agg (entA (entOf h.E i) (.slice Q40 ((entOf h.E i).q.length) qc41))]) rfl rfl ⟨(fr.ev rfl), (fr.ev rfl), trivial⟩ Try.func14 nm14 rfl) (sament_c (d := (entOf h.E ((i : Nat) : Int).toNat)) (e := (entOf h.E i)) (OQ29.view) (hQ43)) ?_
    clear fr a
    rintro v w50 ⟨rfl, hN51⟩ a fr
    replace H := H.new hN51
    replace R := R.new hN51
    replace B4 := B4.new hN51
    replace OQ29 := OQ29.new hN51
    replace B36 := B36.new hN51
    replace hQ43 := hQ43.new hN51
    replace hF := hF.trNew hN51
    rw [show decide ((entOf h.E ((i : Nat) : Int).toNat) = (entOf h.E i)) = true from decide_eq_true rfl] at fr
    refine wpList_nil ?_
    refine ⟨⟨H, R, B4, OQ29, B36, hQ43, trivial⟩, ?_⟩
    refine fx_take (i := 10) (v := .bool false) fr rfl (by kernel_rfl) (fr.want rfl rfl rfl) rfl (by first | decide | simp) (fun _ _ _ h => h) (fun _ ⟨H, R, B4, OQ29, B36, hQ43, _⟩ => x_not rfl (fr.ev rfl) rfl) ⟨H, R, B4, OQ29, B36, hQ43, trivial⟩ ?_
    clear fr a; intro a fr
    refine fx_take (i := 11) (v := .bool false) fr rfl (by kernel_rfl) rfl rfl (by first | decide | simp) (fun _ _ _ h => h) (fun _ ⟨H, R, B4, OQ29, B36, hQ43, _⟩ => x_pick_f rfl (fr.ev rfl) (fr.ev rfl)) ⟨H, R, B4, OQ29, B36, hQ43, trivial⟩ ?_
    clear fr a; intro a fr
    refine fx_hdone (by kernel_rfl) ?_
    refine fx_next ?_
    refine fx_cond_f fr rfl ?_
    refine wp_skip ?_
    refine fx_next ?_
    refine wp_region_lit ?_  -- region 11
    refine fx_val (v := .bool (idl)) fr rfl rfl (by first | decide | simp) (x_move rfl (fr.ev rfl)) ?_
    clear fr a; intro a fr
    refine fx_val (v := .bool (idl)) fr rfl rfl (by first | decide | simp) (x_move rfl (fr.ev rfl)) ?_
    clear fr a; intro a fr
    refine fx_may (g := (idl)) (v := .pointer (some ⟨b1, 1, none⟩)) fr rfl rfl rfl (by simp) rfl (by first | decide | simp) (fun hg => x_fieldAddr fo28_1 rfl (fr.ev rfl) rfl) ?_
    clear fr a; intro a fr
    refine fx_may (g := (idl)) (v := .slice B h.E.length cb) fr rfl rfl rfl (by simp) rfl (by first | decide | simp) (fun hg => x_load1 pl26 rfl ((fr.ev rfl).trans (onlyIf_t hg)) (B4.cell 1 rfl)) ?_
    clear fr a; intro a fr
    refine fx_may (g := (idl)) (v := .int .i64 ((i : Nat) : Int)) fr rfl rfl rfl (by simp) rfl (by first | decide | simp) (fun hg => x_move rfl (fr.ev rfl)) ?_
    clear fr a; intro a fr
    refine fx_may (g := (idl)) (v := .pointer (some ⟨g47, o48 + i * 11, none⟩)) fr rfl rfl rfl (by simp) rfl (by first | decide | simp) (fun hg => x_indexV Try.underlying26 sz42 rfl ((fr.ev rfl).trans (onlyIf_t hg)) hA49 ((fr.ev rfl).trans (onlyIf_t hg)) (by first | omega | decide) rfl) ?_
    clear fr a; intro a fr
    refine fx_may (g := (idl)) (v := .pointer (some ⟨g47, o48 + i * 11 + 5, none⟩)) fr rfl rfl rfl (by simp) rfl (by first | decide | simp) (fun hg => x_fieldAddr fo42_2 rfl ((fr.ev rfl).trans (onlyIf_t hg)) rfl) ?_
    clear fr a; intro a fr
    refine fx_may (g := (idl)) (v := .bool ((entOf h.E i).busy)) fr rfl rfl rfl (by simp) rfl (by first | decide | simp) (fun hg => x_load1 pl4 rfl ((fr.ev rfl).trans (onlyIf_t hg)) (range_cell (R.cell hat42 (by omega) hA49) 5 rfl rfl)) ?_
    clear fr a; intro a fr
    refine fx_may (g := (idl)) (v := .bool (!((entOf h.E i).busy))) fr rfl rfl rfl (by simp) rfl (by first | decide | simp) (fun hg => x_not rfl ((fr.ev rfl).trans (onlyIf_t hg)) rfl) ?_
    clear fr a; intro a fr
    refine fx_val (v := .bool ((idl) && (!((entOf h.E i).busy)))) fr rfl rfl (by first | decide | simp) (x_pick_and rfl (fr.ev rfl) (fun hb => ((fr.ev rfl)).trans (onlyIf_t (by simp_all))) (fun _ => rfl) rfl) ?_
    clear fr a; intro a fr
    refine fx_val (v := .bool ((idl) && (!((entOf h.E i).busy)))) fr rfl rfl (by first | decide | simp) (x_assign rfl (fr.ev rfl)) ?_
    clear fr a; intro a fr
    refine wpList_nil ?_
    refine fx_blk ?_
    refine fx_next ?_
    refine wp_region_lit ?_  -- region 7
    refine fx_val (v := .int .i64 ((i : Nat) : Int)) fr rfl rfl (by first | decide | simp) (x_move rfl (fr.ev rfl)) ?_
    clear fr a; intro a fr
    refine fx_val (v := .int .i64 ((i + 1 : Nat) : Int)) fr rfl rfl (by first | decide | simp) (x_add rfl (fr.ev rfl) rfl (i64w (r := ((i + 1 : Nat) : Int)) (by omega) (by omega))) ?_
    clear fr a; intro a fr
    refine fx_val (v := .int .i64 ((i + 1 : Nat) : Int)) fr rfl rfl (by first | decide | simp) (x_assign rfl (fr.ev rfl)) ?_
    clear fr a; intro a fr
    refine wpList_nil ?_
    refine fx_next ?_
    exact ⟨_, by omega, (i + 1), ((idl) && (!((entOf h.E i).busy))), rfl, fr.sub ⟨rfl, rfl, rfl, rfl, rfl, trivial⟩, hF, H, R, B4, by omega, (by rw [hidl, idle_step _ _ (by omega)])⟩
  · skip
    have hc26 := of_decide_eq_false hc26
    refine wp_exit ?_
    refine fx_xt ?_
    refine fx_xt ?_
    refine fx_xx ?_
    refine fx_next ?_
    refine wp_seq ?_
    refine wp_region_lit ?_  -- region 12
    refine fx_val (v := .pointer (some ⟨b, 0, none⟩)) fr rfl rfl (by first | decide | simp) (x_move rfl (fr.ev rfl)) ?_
    clear fr a; intro a fr
    refine fx_call fr rfl rfl (by first | decide | simp) (x_call (vs := [.pointer (some ⟨b, 0, none⟩)]) rfl rfl ⟨(fr.ev rfl), trivial⟩ Try.func17 nm17 rfl) (idle_h H) ?_
    clear fr a
    rintro v w52 ⟨rfl, hN53⟩ a fr
    replace H := H.new hN53
    replace R := R.new hN53
    replace B4 := B4.new hN53
    replace hF := hF.trNew hN53
    refine fx_val (v := .bool (idl)) fr rfl rfl (by first | decide | simp) (x_move rfl (fr.ev rfl)) ?_
    clear fr a; intro a fr
    refine fx_val (v := .bool ((idleB h.E) == (idl))) fr rfl rfl (by first | decide | simp) (x_beql Try.underlying4 rfl (fr.ev rfl) (fr.ev rfl) rfl) ?_
    clear fr a; intro a fr
    refine fx_val (v := .bool ((idleB h.E) == (idl))) fr rfl rfl (by first | decide | simp) (x_assign rfl (fr.ev rfl)) ?_
    clear fr a; intro a fr
    refine wpList_nil ?_
    refine fx_next ?_
    refine wp_ret ?_
    refine fx_ret fr [.tmp 4] [.bool ((idleB h.E) == (idl))] rfl ⟨rfl, trivial⟩ rfl ?_
    exact ⟨_, rfl, congrArg Value.bool (by rw [hidl, List.take_of_length_le (by omega)]; simp), hF⟩
theorem take_bs (h : HD) (m : Msg) : (takeH h m).1.bs.length = h.bs.length := by
  rcases take_cases h m with ⟨e, he, _⟩ | ⟨_, _, hsrc, hn, hmn, x, hx, hc⟩
  · rw [he]
  · rw [hx]
    rcases hc with ⟨a, b, c, rfl⟩ | ⟨a, b, c, rfl⟩ | ⟨a, b, rfl⟩
    · rfl
    · exact begin_bs
    · exact other_bs
set_option maxRecDepth 100000 in
set_option maxHeartbeats 4000000 in
theorem play_no {w : World} {A : Option Addr} {cap : Nat} {bs : List UInt8} (hV : View byE w A cap bs) {C : Option Addr} {cc : Nat} {l : List Msg} (hL : View msgE w C cc l) (hs : sizeB bs = false) : Calls Try.prog 6 #[.slice A bs.length cap, .slice C l.length cc] w (Ret fun v w' => v = .bool true ∧ New w w') := by
 have hVl := hV.len
 have hLl := hL.len
 unfold maxLen at hVl hLl
 have hF := Only.refl (fun _ => False) w
 refine Zen 70 Try.func6 ?_
 refine Zsr ?_
 refine Za ?_
 refine Znn ?_
 refine Zsr ?_
 refine Zm ?_
 refine Zk cf9 (made_no hV hs) ?_
 rintro v w1 ⟨rfl, hN2⟩
 refine Zm ?_
 refine Zt ?_
 refine Zt ?_
 refine Zt ?_
 refine Zna (z := zv4) (cs := #[.slice none 0 0, .slice none 0 0]) (by kernel_rfl) fun b3 w4 hN5 B6 hb7 => ?_
 replace hF := hF.trNew hN2
 have g_b3 := Nat.le_trans hF.size hb7
 refine Za ?_
 refine ZsS sz28 (by simp [Value.oneCell']) B6 rfl rfl (ho := rfl) (hy := rfl) fun w8 hO9 hBq => ?_
 clear hBq
 refine Za ?_
 refine Znn ?_
 refine Zsq ?_
 refine Zsr ?_
 refine Zm ?_
 refine Zv (.bool true) (fun _ fr => x_not rfl (fr.ev rfl) rfl) ?_
 refine Zm ?_
 refine Zs ?_
 refine Zs ?_
 refine Zs ?_
 refine Zpt ?_
 refine Znn ?_
 refine Zct ?_
 refine Zsr ?_
 refine Zk cf11 (known_c _) ?_
 rintro v w10 ⟨rfl, hN11⟩
 refine Za ?_
 refine Znn ?_
 refine Zrt ?_
 refine Zr1 ?_
 refine Zre rfl [_] ⟨rfl, trivial⟩ ?_
 replace hF := ((hF.trNew hN5).loc hO9 (.inr g_b3)).trNew hN11
 exact ⟨_, rfl, rfl, hF⟩
set_option maxRecDepth 100000 in
set_option maxHeartbeats 4000000 in
theorem play_yes {w : World} {A : Option Addr} {cap : Nat} {bs : List UInt8} (hV : View byE w A cap bs) {C : Option Addr} {cc : Nat} {l : List Msg} (hL : View msgE w C cc l) (hs : sizeB bs = true) : Calls Try.prog 6 #[.slice A bs.length cap, .slice C l.length cc] w (Ret fun v w' => v = .bool true ∧ New w w') := by
 have hVl := hV.len
 have hLl := hL.len
 unfold maxLen at hVl hLl
 have hsz := size_bd hs
 have hF := Only.refl (fun _ => False) w
 refine Zen 70 Try.func6 ?_
 refine Zsr ?_
 refine Za ?_
 refine Znn ?_
 refine Zsr ?_
 refine Zm ?_
 refine Zk cf9 (made_yes hV hs) ?_
 rintro v w13 ⟨hb1, Fp2, A3, cap4, B5, cb6, FpR7, rfl, H8, R9, hf10, hr11, hd12, hN14⟩
 have ap2_C_Fp2 : ∀ k, inA C k → Fp2 k → False := symP (new_apart2P hf10 fun _ hg => hL.lt hg)
 have gA_Fp2 := gA_newP hF hf10
 have ap2_C_FpR7 : ∀ k, inA C k → FpR7 k → False := symP (new_apart2P hr11 fun _ hg => hL.lt hg)
 have gA_FpR7 := gA_newP hF hr11
 have ap2_Fp2_FpR7 := hd12
 refine Zm ?_
 refine Zt ?_
 refine Zt ?_
 refine Zt ?_
 refine Zna (z := zv4) (cs := #[.slice none 0 0, .slice none 0 0]) (by kernel_rfl) fun b15 w16 hN17 B18 hb19 => ?_
 replace hL := hL.new hN14
 have ap_C_b15 : Apart C b15 := hL.apart hb19
 have ap_Fp2_b15 : ¬ Fp2 b15 := H8.apart hb19
 have ap_FpR7_b15 : ¬ FpR7 b15 := R9.apart hb19
 replace hF := hF.trNew hN14
 have g_b15 := Nat.le_trans hF.size hb19
 refine Za ?_
 refine ZsS sz28 (by simp [Value.oneCell']) B18 rfl rfl (ho := rfl) (hy := rfl) fun w20 hO21 hBq => ?_
 replace B18 := hBq
 clear hBq
 refine Za ?_
 refine Znn ?_
 refine Zsq ?_
 refine Zsr ?_
 refine Zm ?_
 refine Zv (.bool false) (fun _ fr => x_not rfl (fr.ev rfl) rfl) ?_
 refine Zm ?_
 refine Zm ?_
 refine Zv _ (fun _ fr => x_len Try.underlying23 rfl (fr.ev rfl)) ?_
 refine Zv _ (fun _ fr => x_gtr rfl (fr.ev rfl) rfl rfl) ?_
 refine Zpf ?_
 refine Znn ?_
 refine Zcd (fun hc22 => ?_) (fun hc22 => ?_)
 ·have hc22 := of_decide_eq_true hc22
  refine Zsr ?_
  refine Zk cf11 (known_c _) ?_
  rintro v w23 ⟨rfl, hN24⟩
  refine Za ?_
  refine Znn ?_
  refine Zrt ?_
  refine Zr1 ?_
  refine Zre rfl [_] ⟨rfl, trivial⟩ ?_
  replace hF := ((hF.trNew hN17).loc hO21 (.inr g_b15)).trNew hN24
  exact ⟨_, rfl, rfl, hF⟩
 ·have hc22 := of_decide_eq_false hc22
  refine Zsk ?_
  refine Znx ?_
  refine Zsq ?_
  refine Zsr ?_
  refine Za ?_
  refine Znn ?_
  refine Zbl ?_
  intro a fr
  replace hL := (hL.new hN17).only hO21 (Apart.ne1 ap_C_b15)
  replace H8 := (H8.new hN17).only hO21 (ne1P ap_Fp2_b15)
  replace R9 := (R9.new hN17).only hO21 (ne1P ap_FpR7_b15)
  replace hF := (hF.trNew hN17).loc hO21 (.inr g_b15)
  refine fx_loop (fun nM a wL => ∃ i : Nat, ∃ hd : HD, ∃ FpX : Nat → Prop, ∃ FpY : Nat → Prop, ∃ AY : Option Addr, ∃ capY : Nat, ∃ BY : Option Addr, ∃ cbY : Nat, nM = l.length - i ∧ Fr (70, []) [(1, .slice C l.length cc), (6, .pointer (some ⟨b15, 0, none⟩)), (5, .pointer (some ⟨hb1, 0, none⟩)), (8, .int .i64 ((i : Nat) : Int))] a ∧ Only (fun _ => False) w wL ∧ View msgE wL C cc l ∧ HomeAt wL FpX hb1 hd ∧ RefH wL FpY AY capY BY cbY hd ∧ Blk wL b15 28 (#[.slice AY hd.bs.length capY, .slice BY hd.E.length cbY]) ∧ i ≤ l.length ∧ HI i hd ∧ hd.bs.length = bs.length ∧ (∀ k, inA C k → FpX k → False) ∧ (∀ k, inA C k → FpY k → False) ∧ (∀ k, FpX k → FpY k → False) ∧ (¬ FpX b15) ∧ (¬ FpY b15) ∧ (∀ g, FpX g → (fun _ => False) g ∨ w.heap.size ≤ g) ∧ (∀ g, FpY g → (fun _ => False) g ∨ w.heap.size ≤ g)) (n0 := _) ⟨0, (home0 bs), Fp2, FpR7, A3, cap4, B5, cb6, rfl, fr.sub ⟨rfl, rfl, rfl, rfl, trivial⟩, hF, hL, H8, R9, (by have h9 := B18; rw [show bs.length / 16 = (home0 bs).E.length by simp [home0]] at h9; exact h9), Nat.zero_le _, HI.home0 bs, rfl, ap2_C_Fp2, ap2_C_FpR7, ap2_Fp2_FpR7, ap_Fp2_b15, ap_FpR7_b15, gA_Fp2, gA_FpR7⟩ ?_
  clear fr a
  rintro n26 a w25 ⟨i, hd, FpX, FpY, AY, capY, BY, cbY, rfl, fr, hF, hL, HH, RR, B18, hi, hHI, hbl, ap2_C_FpX, ap2_C_FpY, ap2_FpX_FpY, ap_FpX_b15, ap_FpY_b15, gA_FpX, gA_FpY⟩
  revert a
  refine Zsq ?_
  refine Zsr ?_
  refine Zm ?_
  refine Zm ?_
  refine Zv _ (fun _ fr => x_len Try.underlying23 rfl (fr.ev rfl)) ?_
  refine Zv _ (fun _ fr => x_lss rfl (fr.ev rfl) (fr.ev rfl) rfl) ?_
  refine Znn ?_
  refine Zcd (fun hc27 => ?_) (fun hc27 => ?_)
  ·have hc27 := of_decide_eq_true hc27
   refine Zsk ?_
   refine Znx ?_
   refine Zsq ?_
   refine Zbl ?_
   refine Zsr ?_
   refine Zm ?_
   refine Zm ?_
   refine Zm ?_
   obtain ⟨g28, o29, hA30⟩ := (hL).some_ (by first | omega | decide)
   refine Zv (.pointer (some ⟨g28, o29 + i * 20, none⟩)) (fun _ fr => x_indexV Try.underlying23 sz36 rfl (fr.ev rfl) hA30 (fr.ev rfl) (by first | omega | decide) rfl) ?_
   refine ZE msgE ag36 ((hL).elem hA30 i msg0 (by omega)) ?_
   refine Zk (args := #[.pointer (some ⟨hb1, 0, none⟩), .agg (msgE.arr (l.getD i msg0))]) cf12 (take_c HH (l.getD i msg0) (hHI.ok (by omega))) ?_
   rintro v w39 ⟨A31, ac32, Fp33, rfl, O34, hA35, H36, hs37, hi38, hN40⟩
   clear HH
   have ap2_Fp33_C : ∀ k, Fp33 k → inA C k → False := moved_apart2P hi38 (symP ap2_C_FpX) fun _ hg => hL.lt hg
   have ap2_Fp33_FpY : ∀ k, Fp33 k → FpY k → False := moved_apart2P hi38 ap2_FpX_FpY fun _ hg => RR.lt hg
   have ap_Fp33_b15 : ¬ Fp33 b15 := moved_apartP hi38 ap_FpX_b15 B18.lt
   have gA_Fp33 := gA_movedP hF hi38 gA_FpX
   refine Zm ?_
   refine Zt ?_
   refine Zt ?_
   refine Za ?_
   refine Za ?_
   refine Znn ?_
   refine Zsq ?_
   refine ZhT (n := 13) 13 (fun w => View msgE w C cc l ∧ Blk w b15 28 (#[.slice AY hd.bs.length capY, .slice BY hd.E.length cbY]) ∧ True) ?_
   intro w41 hN42
   replace hL := (hL.only hN40 (fun g h1 h2 => ap2_C_FpX g h1 h2)).new hN42
   replace B18 := (B18.only hN40 ap_FpX_b15).new hN42
   have hS9 := And.intro hL (And.intro B18 trivial)
   refine Zht 0 rfl _ hS9 (fun _ fr _ ⟨_, B18, _⟩ => x_loadS ag28 rfl (fr.ev rfl) rfl B18.range) ?_
   refine Zhm 1 hS9 ?_
   refine Zhm 2 hS9 ?_
   refine Zht 3 rfl (.pointer (some ⟨g28, o29 + i * 20, none⟩)) hS9 (fun _ fr _ _ => x_indexV Try.underlying23 sz36 rfl (fr.ev rfl) hA30 (fr.ev rfl) (by first | omega | decide) rfl) ?_
   refine ZhE 4 msgE ag36 hS9 (fun _ ⟨hL, _⟩ => ((hL).elem hA30 i msg0 (by omega))) ?_
   refine Zh2 5 10 ?_ ?_
   ·replace RR := (RR.only hN40 (fun g h1 h2 => (symP ap2_FpX_FpY) g h1 h2)).new hN42
    refine Zk (args := #[.agg (#[.slice AY hd.bs.length capY, .slice BY hd.E.length cbY]), .agg (msgE.arr (l.getD i msg0))]) cf19 (rtake_c (l.getD i msg0) RR hHI (by omega) (by rw [hbl]; omega)) ?_
    rintro v w55 ⟨A43, cap44, B45, cb46, FpR47, M48, mc49, rfl, R50, O51, mv52, hM53, hap54, hN56⟩
    have ap2_FpR47_C : ∀ k, FpR47 k → inA C k → False := moved_apart2P mv52 (symP ap2_C_FpY) fun _ hg => hL.lt hg
    have ap_FpR47_b15 : ¬ FpR47 b15 := moved_apartP mv52 ap_FpY_b15 B18.lt
    replace H36 := H36.new hN42
    have ap2_FpR47_Fp33 : ∀ k, FpR47 k → Fp33 k → False := moved_apart2P mv52 (symP ap2_Fp33_FpY) fun _ hg => H36.lt hg
    replace hF := (hF.locP hN40 gA_FpX).trNew hN42
    have gA_FpR47 := gA_movedP hF mv52 gA_FpY
    replace hL := hL.new hN56
    replace B18 := B18.new hN56
    refine Zhb ⟨hL, B18, trivial⟩ ?_
    have hS9 := And.intro hL (And.intro B18 trivial)
    refine Zhm 6 hS9 ?_
    refine Zhx 7 hS9 ?_
    refine Zhx 8 hS9 ?_
    refine Zhx 9 hS9 ?_
    refine Zh1 10 ?_
    refine Zna (z := zv4) (cs := #[.slice none 0 0, .slice none 0 0]) (by kernel_rfl) fun b57 w58 hN59 B60 hb61 => ?_
    have ap_C_b57 : Apart C b57 := hL.apart hb61
    have ne_b15_b57 : NE b15 b57 := NE.mk (Nat.lt_of_lt_of_le B18.lt hb61)
    replace H36 := H36.new hN56
    have ap_Fp33_b57 : ¬ Fp33 b57 := H36.apart hb61
    replace O34 := (O34.new hN42).new hN56
    have ap_A31_b57 : Apart A31 b57 := O34.apart hb61
    have ap_FpR47_b57 : ¬ FpR47 b57 := R50.apart hb61
    have ap_M48_b57 : Apart M48 b57 := O51.apart hb61
    replace hF := hF.trNew hN56
    have g_b57 := Nat.le_trans hF.size hb61
    replace hL := hL.new hN59
    replace B18 := B18.new hN59
    refine Zhb ⟨hL, B18, trivial⟩ ?_
    refine Zh1 11 ?_
    refine ZsS sz28 (by simp [Value.oneCell']) B60 rfl rfl (ho := rfl) (hy := rfl) fun w62 hO63 hBq => ?_
    replace B60 := hBq
    clear hBq
    replace hL := hL.only hO63 (Apart.ne1 ap_C_b57)
    replace B18 := B18.only hO63 ne_b15_b57
    refine Zhb ⟨hL, B18, trivial⟩ ?_
    have hS9 := And.intro hL (And.intro B18 trivial)
    refine Zha 12 hS9 ?_
    refine Zhn ?_
    refine Ztl ?_
    refine Za ?_
    refine Znn ?_
    refine Zsq ?_
    refine Zsq ?_
    have hHI2 := hHI.take (l.getD i msg0)
    have hTb := take_bs hd (l.getD i msg0)
    generalize takeH hd (l.getD i msg0) = T9 at *
    refine Zrg ?_
    refine Zm ?_
    refine Zm ?_
    refine Zv (.bool false) (fun _ fr => x_neq rfl (fr.ev rfl) (fr.ev rfl) (by simp)) ?_
    refine Zm ?_
    refine Zm ?_
    refine Zm ?_
    replace O34 := (O34.new hN59).only hO63 (Apart.ne1 ap_A31_b57)
    replace O51 := (O51.new hN59).only hO63 (Apart.ne1 ap_M48_b57)
    refine Zk cf20 (msgs_c (la := T9.2.1) (lb := T9.2.1) (O34.view) (O51.view)) ?_
    rintro v w64 ⟨rfl, hN65⟩
    intro a fr
    rw [show decide (T9.2.1 = T9.2.1) = true from decide_eq_true rfl] at fr
    revert a
    refine Zv (.bool false) (fun _ fr => x_not rfl (fr.ev rfl) rfl) ?_
    refine Zpf ?_
    refine Zm ?_
    refine Zm ?_
    replace B60 := B60.new hN65
    refine Zv _ (fun _ fr => x_loadS ag28 rfl (fr.ev rfl) rfl B60.range) ?_
    replace H36 := ((H36.new hN59).only hO63 (ne1P ap_Fp33_b57)).new hN65
    replace R50 := ((R50.new hN59).only hO63 (ne1P ap_FpR47_b57)).new hN65
    refine Zk (args := #[.pointer (some ⟨hb1, 0, none⟩), .agg (#[.slice A43 ((T9.1).bs.length) cap44, .slice B45 ((T9.1).E.length) cb46])]) cf21 (same_c H36 R50 (symP ap2_FpR47_Fp33) hHI2 (by omega)) ?_
    rintro v w66 ⟨rfl, hN67⟩
    refine Zv (.bool false) (fun _ fr => x_not rfl (fr.ev rfl) rfl) ?_
    refine Zpf ?_
    refine Znn ?_
    refine Zcf ?_
    refine Zsk ?_
    refine Znx ?_
    refine Zrg ?_
    replace B60 := B60.new hN67
    refine Zv _ (fun _ fr => x_loadS ag28 rfl (fr.ev rfl) rfl B60.range) ?_
    replace B18 := (B18.new hN65).new hN67
    refine ZsS sz28 (by simp [Value.oneCell']) B18 rfl rfl (ho := rfl) (hy := rfl) fun w68 hO69 hBq => ?_
    replace B18 := hBq
    clear hBq
    refine Znl ?_
    refine Zb ?_
    refine Znx ?_
    refine Zrg ?_
    refine Zm ?_
    refine Zv _ (fun _ fr => x_add rfl (fr.ev rfl) rfl (i64w (r := ((i + 1 : Nat) : Int)) (by omega) (by omega))) ?_
    refine Za ?_
    intro a fr
    refine wpList_nil ?_
    refine fx_next ?_
    replace hF := ((((hF.trNew hN59).loc hO63 (.inr g_b57)).trNew hN65).trNew hN67).loc hO69 (.inr g_b15)
    replace hL := ((hL.new hN65).new hN67).only hO69 (Apart.ne1 ap_C_b15)
    replace H36 := (H36.new hN67).only hO69 (ne1P ap_Fp33_b15)
    replace R50 := (R50.new hN67).only hO69 (ne1P ap_FpR47_b15)
    exact ⟨_, by omega, (i + 1), T9.1, Fp33, FpR47, A43, cap44, B45, cb46, rfl, fr.sub ⟨rfl, rfl, rfl, rfl, trivial⟩, hF, hL, H36, R50, B18, by omega, hHI2, (hTb.trans hbl), (symP ap2_Fp33_C), (symP ap2_FpR47_C), (symP ap2_FpR47_Fp33), ap_Fp33_b15, ap_FpR47_b15, gA_Fp33, gA_FpR47⟩
   ·refine Zna (z := zv4) (cs := #[.slice none 0 0, .slice none 0 0]) (by kernel_rfl) fun b70 w71 hN72 B73 hb74 => ?_
    have ap_C_b70 : Apart C b70 := hL.apart hb74
    replace RR := (RR.only hN40 (fun g h1 h2 => (symP ap2_FpX_FpY) g h1 h2)).new hN42
    have ap_FpY_b70 : ¬ FpY b70 := RR.apart hb74
    have ne_b15_b70 : NE b15 b70 := NE.mk (Nat.lt_of_lt_of_le B18.lt hb74)
    replace H36 := H36.new hN42
    have ap_Fp33_b70 : ¬ Fp33 b70 := H36.apart hb74
    replace O34 := O34.new hN42
    have ap_A31_b70 : Apart A31 b70 := O34.apart hb74
    replace hF := (hF.locP hN40 gA_FpX).trNew hN42
    have g_b70 := Nat.le_trans hF.size hb74
    replace hL := hL.new hN72
    replace B18 := B18.new hN72
    refine Zhb ⟨hL, B18, trivial⟩ ?_
    refine Zh1 5 ?_
    replace RR := RR.new hN72
    refine Zk (args := #[.agg (#[.slice AY hd.bs.length capY, .slice BY hd.E.length cbY]), .agg (msgE.arr (l.getD i msg0))]) cf19 (rtake_c (l.getD i msg0) RR hHI (by omega) (by rw [hbl]; omega)) ?_
    rintro v w87 ⟨A75, cap76, B77, cb78, FpR79, M80, mc81, rfl, R82, O83, mv84, hM85, hap86, hN88⟩
    have ap2_FpR79_C : ∀ k, FpR79 k → inA C k → False := moved_apart2P mv84 (symP ap2_C_FpY) fun _ hg => hL.lt hg
    have ap_FpR79_b15 : ¬ FpR79 b15 := moved_apartP mv84 ap_FpY_b15 B18.lt
    replace H36 := H36.new hN72
    have ap2_FpR79_Fp33 : ∀ k, FpR79 k → Fp33 k → False := moved_apart2P mv84 (symP ap2_Fp33_FpY) fun _ hg => H36.lt hg
    have ap_FpR79_b70 : ¬ FpR79 b70 := moved_apartP mv84 ap_FpY_b70 B73.lt
    replace hF := hF.trNew hN72
    have gA_FpR79 := gA_movedP hF mv84 gA_FpY
    have ap_M80_b70 : Apart M80 b70 := new_apart hM85 B73.lt
    replace hL := hL.new hN88
    replace B18 := B18.new hN88
    refine Zhb ⟨hL, B18, trivial⟩ ?_
    have hS9 := And.intro hL (And.intro B18 trivial)
    refine Zhm 6 hS9 ?_
    refine Zhx 7 hS9 ?_
    refine Zhx 8 hS9 ?_
    refine Zhx 9 hS9 ?_
    refine Zh1 11 ?_
    replace B73 := B73.new hN88
    refine ZsS sz28 (by simp [Value.oneCell']) B73 rfl rfl (ho := rfl) (hy := rfl) fun w89 hO90 hBq => ?_
    replace B73 := hBq
    clear hBq
    replace hL := hL.only hO90 (Apart.ne1 ap_C_b70)
    replace B18 := B18.only hO90 ne_b15_b70
    refine Zhb ⟨hL, B18, trivial⟩ ?_
    have hS9 := And.intro hL (And.intro B18 trivial)
    refine Zha 12 hS9 ?_
    refine Zhn ?_
    refine Ztl ?_
    refine Za ?_
    refine Znn ?_
    refine Zsq ?_
    refine Zsq ?_
    have hHI2 := hHI.take (l.getD i msg0)
    have hTb := take_bs hd (l.getD i msg0)
    generalize takeH hd (l.getD i msg0) = T9 at *
    refine Zrg ?_
    refine Zm ?_
    refine Zm ?_
    refine Zv (.bool false) (fun _ fr => x_neq rfl (fr.ev rfl) (fr.ev rfl) (by simp)) ?_
    refine Zm ?_
    refine Zm ?_
    refine Zm ?_
    replace O34 := ((O34.new hN72).new hN88).only hO90 (Apart.ne1 ap_A31_b70)
    replace O83 := O83.only hO90 (Apart.ne1 ap_M80_b70)
    refine Zk cf20 (msgs_c (la := T9.2.1) (lb := T9.2.1) (O34.view) (O83.view)) ?_
    rintro v w91 ⟨rfl, hN92⟩
    intro a fr
    rw [show decide (T9.2.1 = T9.2.1) = true from decide_eq_true rfl] at fr
    revert a
    refine Zv (.bool false) (fun _ fr => x_not rfl (fr.ev rfl) rfl) ?_
    refine Zpf ?_
    refine Zm ?_
    refine Zm ?_
    replace B73 := B73.new hN92
    refine Zv _ (fun _ fr => x_loadS ag28 rfl (fr.ev rfl) rfl B73.range) ?_
    replace H36 := ((H36.new hN88).only hO90 (ne1P ap_Fp33_b70)).new hN92
    replace R82 := (R82.only hO90 (ne1P ap_FpR79_b70)).new hN92
    refine Zk (args := #[.pointer (some ⟨hb1, 0, none⟩), .agg (#[.slice A75 ((T9.1).bs.length) cap76, .slice B77 ((T9.1).E.length) cb78])]) cf21 (same_c H36 R82 (symP ap2_FpR79_Fp33) hHI2 (by omega)) ?_
    rintro v w93 ⟨rfl, hN94⟩
    refine Zv (.bool false) (fun _ fr => x_not rfl (fr.ev rfl) rfl) ?_
    refine Zpf ?_
    refine Znn ?_
    refine Zcf ?_
    refine Zsk ?_
    refine Znx ?_
    refine Zrg ?_
    replace B73 := B73.new hN94
    refine Zv _ (fun _ fr => x_loadS ag28 rfl (fr.ev rfl) rfl B73.range) ?_
    replace B18 := (B18.new hN92).new hN94
    refine ZsS sz28 (by simp [Value.oneCell']) B18 rfl rfl (ho := rfl) (hy := rfl) fun w95 hO96 hBq => ?_
    replace B18 := hBq
    clear hBq
    refine Znl ?_
    refine Zb ?_
    refine Znx ?_
    refine Zrg ?_
    refine Zm ?_
    refine Zv _ (fun _ fr => x_add rfl (fr.ev rfl) rfl (i64w (r := ((i + 1 : Nat) : Int)) (by omega) (by omega))) ?_
    refine Za ?_
    intro a fr
    refine wpList_nil ?_
    refine fx_next ?_
    replace hF := ((((hF.trNew hN88).loc hO90 (.inr g_b70)).trNew hN92).trNew hN94).loc hO96 (.inr g_b15)
    replace hL := ((hL.new hN92).new hN94).only hO96 (Apart.ne1 ap_C_b15)
    replace H36 := (H36.new hN94).only hO96 (ne1P ap_Fp33_b15)
    replace R82 := (R82.new hN94).only hO96 (ne1P ap_FpR79_b15)
    exact ⟨_, by omega, (i + 1), T9.1, Fp33, FpR79, A75, cap76, B77, cb78, rfl, fr.sub ⟨rfl, rfl, rfl, rfl, trivial⟩, hF, hL, H36, R82, B18, by omega, hHI2, (hTb.trans hbl), (symP ap2_Fp33_C), (symP ap2_FpR79_C), (symP ap2_FpR79_Fp33), ap_Fp33_b15, ap_FpR79_b15, gA_Fp33, gA_FpR79⟩
  ·have hc27 := of_decide_eq_false hc27
   refine Zex ?_
   refine Zxt ?_
   refine Zxt ?_
   refine Zxx ?_
   refine Znx ?_
   refine Zsr ?_
   refine Zk cf11 (known_c _) ?_
   rintro v w97 ⟨rfl, hN98⟩
   refine Za ?_
   refine Znn ?_
   refine Zrt ?_
   refine Zre rfl [_] ⟨rfl, trivial⟩ ?_
   replace hF := hF.trNew hN98
   exact ⟨_, rfl, rfl, hF⟩
end Go.Proofs.Ytdiaemlgghfecaa
namespace Go.Proofs.Ytdiaemlgghfecaa
open Go.RowKit Go.ChangeShapes Go.WideShapes Go.ChangeAt Go.Deep
section
variable {H : Type} {enc : TypeId × Value → H} {P : Program} {w : World} {base : Nat} {spare : Nat → Bool} {held : Bool} {fuel : Nat} {cs : List Value} {x : DataW H × List MemPlace}
theorem piece {q n : Nat} {a b : List Value} (h1 : (cs.drop q).take n = a) (h2 : cs.drop (q + n) = b) : cs.drop q = a ++ b := by
  rw [← h1, ← h2, ← List.drop_drop, List.take_append_drop]
theorem trod_ints {t e n : Nat} {k : IntKind} (ht : P.underlying t = some (.array n e)) (he : P.underlying e = some (.int k)) (hC : P.cellsOf e = 1) (hCt : P.cellsOf t = n) (h : DataW.trod enc P w base spare held fuel t cs = some x) :
    ∃ l : List Int, l.length = n ∧ cs = l.map (Value.int k) ∧ ∀ a ∈ l, (Lit.int k a).wf = true := by
  obtain ⟨xs, m, _, _, hl, hxl, hi⟩ := DataW.trod_array ht h
  rw [hC] at hi
  rw [hCt] at hl
  have hb : ∀ i, (h : i < cs.length) → ∃ a : Int, cs[i] = .int k a ∧ (Lit.int k a).wf = true := by
    intro i h
    have h2 := hi i (by omega)
    have e1 : (cs.drop (i * 1)).take 1 = [cs[i]] := by
      rw [Nat.mul_one, List.drop_eq_getElem_cons h]
      rfl
    rw [e1, List.getElem?_eq_getElem (show i < xs.length by omega)] at h2
    obtain ⟨a, e0, _, wa⟩ := DataW.trod_int he h2
    exact ⟨a, by simpa using e0, wa⟩
  obtain ⟨f, hf⟩ : ∃ f : (i : Fin cs.length) → Int, ∀ i : Fin cs.length, cs[i.1] = .int k (f i) ∧ (Lit.int k (f i)).wf = true := ⟨fun i => (hb i i.2).choose, fun i => (hb i i.2).choose_spec⟩
  refine ⟨List.ofFn f, by simp [hl], ?_, ?_⟩
  · apply List.ext_getElem
    · simp
    · intro i h1 h2
      rw [(hf ⟨i, h1⟩).1]
      simp
  · intro a ha
    obtain ⟨i, rfl⟩ := List.mem_ofFn.1 ha
    exact (hf i).2
theorem has_addr {r : Reach} {a : Addr} {e n : Nat} (h : w.has P r base a e n) : ∃ g o, a = ⟨g, o, none⟩ ∧ g < w.heap.size := by
  obtain ⟨_, h1, row, cells, h2, _⟩ := h
  obtain ⟨g, o, s⟩ := a
  subst h1
  refine ⟨g, o, rfl, ?_⟩
  unfold World.shape? at h2
  rcases Nat.lt_or_ge g w.heap.size with h | h
  · exact h
  · have : w.heap[g]? = none := Array.getElem?_eq_none h
    simp [this] at h2
theorem add_none (g o i : Nat) : (⟨g, o, none⟩ : Addr).add i = ⟨g, o + i, none⟩ := by
  unfold Addr.add
  by_cases h : i = 0 <;> simp [h]
theorem open_recs {α : Type} [DecidableEq α] {E : Enc P α} {OK : α → Prop} {t : TypeId} {r : Reach} {b0 : Nat} {v : Value} {d : DataW H} {p : List MemPlace} (ht : P.underlying t = some (.slice E.T)) (hC : P.cellsOf E.T = E.n)
    (hel : ∀ fuel cs x, DataW.trod enc P w base (fun _ => true) held fuel E.T cs = some x → ∃ m, OK m ∧ cs = E.cells m) (hv : Value.okWide P w r b0 t v) (h : DataW.Trod enc P w base (fun _ => true) held t v d p) :
    ∃ A cap l, v = .slice A l.length cap ∧ View E w A cap l ∧ ∀ m ∈ l, OK m := by
  obtain ⟨a0, len, cap, rfl⟩ := okWide_slice ht hv
  obtain ⟨fuel, hf⟩ := h
  rcases open_slice ht hf with ⟨hcs, _⟩ | ⟨a, l, c, m, n, D, Pl, hcs, _, hl, hm, hz, _, hcell⟩
  · simp [Value.cells] at hcs
    obtain ⟨rfl, rfl, rfl⟩ := hcs
    exact ⟨none, 0, [], rfl, View.nil, by simp⟩
  · simp [Value.cells] at hcs
    obtain ⟨rfl, rfl, rfl⟩ := hcs
    rw [if_pos rfl] at hz
    subst hz
    have hh : w.has P r b0 a E.T m := by
      unfold Value.okWide at hv
      rw [ht] at hv
      simp only [Cell.okWide, ht, Cell.ok] at hv
      exact hv.2.2
    obtain ⟨g, o, rfl, hg⟩ := has_addr hh
    rw [hC] at hcell
    have hb : ∀ i : Fin len, ∃ q : α, OK q ∧ w.rangeAt g (o + i.1 * E.n) (E.cells q) := by
      intro i
      obtain ⟨cs', h1, h2⟩ := hcell i.1 (by omega)
      obtain ⟨q, hq, rfl⟩ := hel _ _ _ h2
      obtain ⟨_, hcl, hat⟩ := World.cells?_some h1
      refine ⟨q, hq, fun j v hj => ?_⟩
      have hjl := (List.getElem?_eq_some_iff.1 hj).1
      have := hat j (by omega)
      rw [add_none, add_none] at this
      rw [this, hj]
    obtain ⟨f, hf⟩ : ∃ f : Fin len → α, ∀ i, OK (f i) ∧ w.rangeAt g (o + i.1 * E.n) (E.cells (f i)) := ⟨fun i => (hb i).choose, fun i => (hb i).choose_spec⟩
    refine ⟨some ⟨g, o, none⟩, m, List.ofFn f, by simp, ⟨by simp; omega, hm, .inr ⟨g, o, rfl, hg, fun j v hj => ?_⟩⟩, ?_⟩
    · have hjl := (List.getElem?_eq_some_iff.1 hj).1
      rw [flat_len, List.length_ofFn] at hjl
      have hn := E.pos
      have hq : j / E.n < len := (Nat.div_lt_iff_lt_mul hn).2 hjl
      have hr : j % E.n < E.n := Nat.mod_lt _ hn
      have hj2 : j / E.n * E.n + j % E.n = j := by rw [Nat.mul_comm]; exact Nat.div_add_mod j E.n
      have e1 := flat_drop (E := E) (List.ofFn f) (j / E.n) (by simpa using hq)
      have e2 : (E.cells (f ⟨j / E.n, hq⟩))[j % E.n]? = some v := by
        rw [List.getElem_ofFn] at e1
        rw [← e1, List.getElem?_take, if_pos hr, List.getElem?_drop, hj2]
        exact hj
      have := (hf ⟨j / E.n, hq⟩).2 (j % E.n) v e2
      rw [← this]
      show _ = w.cell? ⟨g, o + j / E.n * E.n + j % E.n, none⟩
      rw [Nat.add_assoc, hj2]
    · intro q hq
      obtain ⟨i, rfl⟩ := List.mem_ofFn.1 hq
      exact (hf i).1
end
end Go.Proofs.Ytdiaemlgghfecaa
namespace Go.Proofs.Ytdiaemlgghfecaa
open Go.RowKit Go.ChangeShapes Go.WideShapes Go.ChangeAt
section
variable {H : Type} {enc : TypeId × Value → H} {w : World} {base : Nat} {spare : Nat → Bool} {held : Bool} {fuel : Nat} {cs : List Value} {x : DataW H × List MemPlace}
theorem cellsMSG : Try.prog.cellsOf 36 = 20 := by kernel_rfl
theorem cellsKIND : Try.prog.cellsOf 33 = 1 := by kernel_rfl
theorem cellsU32 : Try.prog.cellsOf 24 = 1 := by kernel_rfl
theorem cellsARR : Try.prog.cellsOf 34 = 16 := by kernel_rfl
theorem cellsU8 : Try.prog.cellsOf 5 = 1 := by kernel_rfl
theorem cellsI64 : Try.prog.cellsOf 3 = 1 := by kernel_rfl
theorem wf_u32 {a : Int} (h : (Lit.int .u32 a).wf = true) : 0 ≤ a ∧ a < 4294967296 := by
  simp [Lit.wf, IntKind.min, IntKind.max, IntKind.signed, IntKind.bits] at h
  omega
theorem wf_u8 {a : Int} (h : (Lit.int .u8 a).wf = true) : 0 ≤ a ∧ a < 256 := by
  simp [Lit.wf, IntKind.min, IntKind.max, IntKind.signed, IntKind.bits] at h
  omega
theorem trod_msg (h : DataW.trod enc Try.prog w base spare held fuel 36 cs = some x) : ∃ m : Msg, True ∧ cs = m.cells := by
  obtain ⟨xs, n, _, _, hl, hlen, hg⟩ := DataW.trod_struct Try.underlying36 h
  rw [cellsMSG] at hl
  match xs, hlen with
  | [y0, y1, y2, y3, y4], _ =>
    have h0 : DataW.trod enc Try.prog w base spare held n 33 ((cs.drop 0).take (Try.prog.cellsOf 33)) = some y0 := hg 0 _ rfl
    rw [cellsKIND] at h0
    have h1 : DataW.trod enc Try.prog w base spare held n 3 ((cs.drop 1).take (Try.prog.cellsOf 3)) = some y1 := hg 1 _ rfl
    rw [cellsI64] at h1
    have h2 : DataW.trod enc Try.prog w base spare held n 3 ((cs.drop 2).take (Try.prog.cellsOf 3)) = some y2 := hg 2 _ rfl
    rw [cellsI64] at h2
    have h3 : DataW.trod enc Try.prog w base spare held n 24 ((cs.drop 3).take (Try.prog.cellsOf 24)) = some y3 := hg 3 _ rfl
    rw [cellsU32] at h3
    have h4 : DataW.trod enc Try.prog w base spare held n 34 ((cs.drop 4).take (Try.prog.cellsOf 34)) = some y4 := hg 4 _ rfl
    rw [cellsARR] at h4
    obtain ⟨a0, e0, _⟩ := DataW.trod_int Try.underlying33 h0
    obtain ⟨a1, e1, _⟩ := DataW.trod_int Try.underlying3 h1
    obtain ⟨a2, e2, _⟩ := DataW.trod_int Try.underlying3 h2
    obtain ⟨a3, e3, _, w3⟩ := DataW.trod_int Try.underlying24 h3
    obtain ⟨l, hll, e4, hw⟩ := trod_ints Try.underlying34 Try.underlying5 cellsU8 cellsARR h4
    refine ⟨⟨a0, a1, a2, a3, ⟨l, hll, fun a ha => wf_u8 (hw a ha)⟩, wf_u32 w3⟩, trivial, ?_⟩
    have p5 : cs.drop 20 = [] := List.drop_eq_nil_of_le (by omega)
    have p4 := piece e4 p5
    have p3 := piece e3 p4
    have p2 := piece e2 p3
    have p1 := piece e1 p2
    have p0 := piece e0 p1
    rw [List.drop_zero] at p0
    rw [p0]
    simp [Msg.cells]
theorem trod_byte (h : DataW.trod enc Try.prog w base spare held fuel 5 cs = some x) : ∃ m : UInt8, True ∧ cs = byE.cells m := by
  obtain ⟨a, e, _, wa⟩ := DataW.trod_int Try.underlying5 h
  have := wf_u8 wa
  refine ⟨UInt8.ofNat a.toNat, trivial, ?_⟩
  rw [e]
  show _ = [u8v _]
  unfold u8v
  congr 2
  simp
  omega
def MsgsArg (w : World) (v : Value) : Prop := ∃ A cap l, v = .slice A l.length cap ∧ View msgE w A cap l
def BytArg (w : World) (v : Value) : Prop := ∃ A cap l, v = .slice A l.length cap ∧ View byE w A cap l
set_option maxRecDepth 100000 in
theorem open_msgs {r : Reach} {b0 : Nat} {v : Value} {d : DataW H} {p : List MemPlace} (hv : Value.okWide Try.prog w r b0 23 v) (h : DataW.Trod enc Try.prog w base (fun _ => true) held 23 v d p) : MsgsArg w v := by
  obtain ⟨A, cap, l, h1, h2, _⟩ := open_recs (E := msgE) (OK := fun _ => True) Try.underlying23 cellsMSG (fun _ _ _ => trod_msg) hv h
  exact ⟨A, cap, l, h1, h2⟩
set_option maxRecDepth 100000 in
theorem open_byts {r : Reach} {b0 : Nat} {v : Value} {d : DataW H} {p : List MemPlace} (hv : Value.okWide Try.prog w r b0 22 v) (h : DataW.Trod enc Try.prog w base (fun _ => true) held 22 v d p) : BytArg w v := by
  obtain ⟨A, cap, l, h1, h2, _⟩ := open_recs (E := byE) (OK := fun _ => True) Try.underlying22 cellsU8 (fun _ _ _ => trod_byte) hv h
  exact ⟨A, cap, l, h1, h2⟩
end
end Go.Proofs.Ytdiaemlgghfecaa
namespace Go.Proofs.Ytdiaemlgghfecaa
open Go.RowKit
set_option linter.unusedVariables false
theorem walk_HomePlay (w : World) (v0 : Value) (hv0 : BytArg w v0) (v1 : Value) (hv1 : MsgsArg w v1) : Calls Try.prog 6 #[v0, v1] w fun e w' => e = .returned (.bool true) ∧ Below w.heap.size w w' := by
  obtain ⟨A0, c0, l0, rfl, hv0⟩ := hv0
  obtain ⟨A1, c1, l1, rfl, hv1⟩ := hv1
  cases hs : sizeB l0 with
  | false =>
    refine (play_no hv0 hv1 hs).mono ?_
    rintro e w' ⟨v, rfl, rfl, hn⟩
    exact ⟨rfl, hn.nb⟩
  | true =>
    refine (play_yes hv0 hv1 hs).mono ?_
    rintro e w' ⟨v, rfl, rfl, hn⟩
    exact ⟨rfl, hn.nb⟩
end Go.Proofs.Ytdiaemlgghfecaa
