/-
  The walk of ImageMakes.
-/
import Derived.Test.YtglepciddhbmbaaImgJ
import Derived.Test.YtglepciddhbmbaaWLines
namespace Go.Proofs.Ytglepciddhbmbaa
open Go.RowKit

def M1400 (va : Option Addr) (cap : Nat) (bs : List UInt8) : List (Tmp × (Value → World → Prop)) :=
  [(7, is (.int .i64 2)), (6, is (.pointer none)), (0, is (.slice va bs.length cap)), (107, is (.int .i64 2)), (108, is (.int .i64 2)), (109, is (.bool false)), (110, is (.bool false)), (111, is undef), (112, is undef), (113, is undef), (114, is undef), (115, is undef), (116, is undef), (117, is undef), (118, is undef), (119, is undef), (120, is undef), (121, is undef), (122, is undef), (123, is undef), (124, is (.bool false))]

def M1600 (size : Int) : List (Tmp × (Value → World → Prop)) :=
  [(9, is (.int .i64 2)), (8, is (.pointer none)), (1, is (.int .i64 size)), (125, is (.int .i64 2)), (126, is (.int .i64 2)), (127, is (.bool true)), (128, is (.bool true)), (129, is undef), (130, is undef), (131, is undef), (132, is undef), (133, is undef), (134, is undef), (135, is undef), (136, is (.bool true)), (137, is (.bool true)), (138, is (.bool true)), (139, is (.bool true)), (4, is (.bool true))]

def M1401 (va : Option Addr) (cap : Nat) (bs : List UInt8) : List (Tmp × (Value → World → Prop)) :=
  [(7, is (.int .i64 2)), (6, is (.pointer none)), (0, is (.slice va bs.length cap)), (107, is (.int .i64 2)), (108, is (.int .i64 2)), (109, is (.bool false)), (110, is (.bool false)), (111, is undef), (112, is undef), (113, is undef), (114, is undef), (115, is undef), (116, is undef), (117, is undef), (118, is undef), (119, is undef), (120, is undef), (121, is undef), (122, is undef), (123, is undef), (124, is (.bool false))]

def M1601 (by_ sz : Nat) : List (Tmp × (Value → World → Prop)) :=
  [(9, is (.int .i64 0)), (8, is (.pointer (some ⟨by_, 0, none⟩))), (1, is (.int .i64 sz)), (125, is (.int .i64 0)), (126, is (.int .i64 0)), (127, is (.bool false)), (128, is (.bool false)), (129, is (.pointer (some ⟨by_, 0, none⟩))), (130, ownsB (List.replicate sz 0)), (131, is (.string (str (List.replicate sz 0)))), (132, is (.int .i64 sz)), (133, ownsB (List.replicate sz 0)), (134, is (.string (str (List.replicate sz 0)))), (135, is (.bool true)), (136, is (.bool true)), (137, is (.bool true)), (138, is (.bool true)), (139, is (.bool true)), (4, is (.bool true))]

def M1410 (bx : Nat) (va : Option Addr) (cap : Nat) (bs : List UInt8) : List (Tmp × (Value → World → Prop)) :=
  [(7, is (.int .i64 0)), (6, is (.pointer (some ⟨bx, 0, none⟩))), (0, is (.slice va bs.length cap)), (107, is (.int .i64 0)), (108, is (.int .i64 0)), (109, is (.bool true)), (110, is (.bool true)), (111, is (.pointer (some ⟨bx, 0, none⟩))), (112, ownsB bs), (113, is (.string (str bs))), (114, is (.slice va bs.length cap)), (115, is (.string (str bs))), (116, is (.bool false)), (117, is (.bool false)), (118, is (.pointer (some ⟨bx, 0, none⟩))), (119, is (.int .i64 bs.length)), (120, is (.slice va bs.length cap)), (121, is (.int .i64 bs.length)), (122, is (.bool false)), (123, is (.bool false)), (124, is (.bool false))]

def M1610 (size : Int) : List (Tmp × (Value → World → Prop)) :=
  [(9, is (.int .i64 2)), (8, is (.pointer none)), (1, is (.int .i64 size)), (125, is (.int .i64 2)), (126, is (.int .i64 2)), (127, is (.bool true)), (128, is (.bool true)), (129, is undef), (130, is undef), (131, is undef), (132, is undef), (133, is undef), (134, is undef), (135, is undef), (136, is (.bool true)), (137, is (.bool true)), (138, is (.bool true)), (139, is (.bool true)), (4, is (.bool true))]

def M1411 (bx : Nat) (va : Option Addr) (cap : Nat) (bs : List UInt8) : List (Tmp × (Value → World → Prop)) :=
  [(7, is (.int .i64 0)), (6, is (.pointer (some ⟨bx, 0, none⟩))), (0, is (.slice va bs.length cap)), (107, is (.int .i64 0)), (108, is (.int .i64 0)), (109, is (.bool true)), (110, is (.bool true)), (111, is (.pointer (some ⟨bx, 0, none⟩))), (112, ownsB bs), (113, is (.string (str bs))), (114, is (.slice va bs.length cap)), (115, is (.string (str bs))), (116, is (.bool false)), (117, is (.bool false)), (118, is (.pointer (some ⟨bx, 0, none⟩))), (119, is (.int .i64 bs.length)), (120, is (.slice va bs.length cap)), (121, is (.int .i64 bs.length)), (122, is (.bool false)), (123, is (.bool false)), (124, is (.bool false))]

def M1611 (by_ sz : Nat) : List (Tmp × (Value → World → Prop)) :=
  [(9, is (.int .i64 0)), (8, is (.pointer (some ⟨by_, 0, none⟩))), (1, is (.int .i64 sz)), (125, is (.int .i64 0)), (126, is (.int .i64 0)), (127, is (.bool false)), (128, is (.bool false)), (129, is (.pointer (some ⟨by_, 0, none⟩))), (130, ownsB (List.replicate sz 0)), (131, is (.string (str (List.replicate sz 0)))), (132, is (.int .i64 sz)), (133, ownsB (List.replicate sz 0)), (134, is (.string (str (List.replicate sz 0)))), (135, is (.bool true)), (136, is (.bool true)), (137, is (.bool true)), (138, is (.bool true)), (139, is (.bool true)), (4, is (.bool true))]
theorem own_empty (w : World) : (w.alloc (.cells #[] 5)).ownsRow w.heap.size 5 1 (.slice (some ⟨w.heap.size, 0, none⟩) 0 0) 0 [] :=
  World.ownsRow_made w #[] 0 (Nat.le_refl _) (Nat.zero_le _) rfl
theorem src_one (w : World) (x : UInt8) : Src (w.alloc (.cells #[u8v x] 5)) 1 (.slice (some ⟨w.heap.size, 0, none⟩) 1 1) 1 [u8v x] := by
  refine ⟨rfl, by simp [u8v, Value.oneCell'], .inr ⟨_, _, rfl, fun j u hj => ?_⟩⟩
  have hj0 : j = 0 := by
    cases j with
    | zero => rfl
    | succ j => simp at hj
  subst hj0
  rw [addr_add, head_cell (Go.heap_alloc_new w _)]
  simpa using hj
theorem run_build77 (ρ : Operand → Value) {o : Oper} (ho : o.op = .buildSlice 30 1 #[(0, .const (.int .u8 77))]) (hρ : ρ (.const (.int .u8 77)) = .int .u8 77) (W : World) :
    (execOp ρ o).run Try.prog W = .ok (.value (.slice (some ⟨W.heap.size, 0, none⟩) 1 1)) (W.alloc (.cells #[u8v 77] 5)) := by
  have h : (Instr.buildSlice 30 1 #[(0, .int .u8 77)]).run Try.prog W = .ok (.slice (some ⟨W.heap.size, 0, none⟩) 1 1) (W.alloc (.cells #[.int .u8 77] 5)) := by kernel_rfl
  unfold execOp
  rw [ho]
  simp only [List.map_toArray, List.map_cons, List.map_nil, hρ]
  rw [Sem.run_bind, h]
  rfl
/-- The shorter slice of an owned row. -/
theorem row_short {w : World} {base g cap n : Nat} {bs : List UInt8} {y : UInt8} (hn : n = bs.length) (h : w.ownsRow base 5 1 (.slice (some ⟨g, 0, none⟩) (n + 1) cap) (n + 1) (bs.map u8v ++ [u8v y])) :
    w.ownsRow base 5 1 (.slice (some ⟨g, 0, none⟩) n cap) n (bs.map u8v) ∧ w.cell? ⟨g, n, none⟩ = some (u8v y) ∧ n + 1 ≤ cap ∧ cap ≤ maxLen := by
  obtain ⟨cur, h0, h1, h2, h3, h4⟩ := row_at h
  refine ⟨row_mk (row_lt h).1 h0 (by omega) h2 h3 ?_, ?_, h1, h2⟩
  · have : (cur.toList.take ((n + 1) * 1)).take n = (bs.map u8v ++ [u8v y]).take n := by rw [h4]
    rw [List.take_take, Nat.min_eq_left (by omega)] at this
    rw [Nat.mul_one, this, hn]
    simp
  · rw [row_cell h (by omega), hn]
    simp
theorem byte_succ (x : UInt8) : ∃ y : UInt8, u8v y = .int .u8 (((x.toNat : Int) + 1) % 256) := by
  refine ⟨UInt8.ofNat (x.toNat + 1), ?_⟩
  simp [u8v]

theorem body_made {ops : Array Oper} {S : World → Prop} {F : Tmp → Value → World → Prop} {o : Oper} {i0 : TypeInfo} {n : Nat} {x : Tmp} (hE : ElemInfo Try.prog 30 5 i0 (.int .u8 0) 1 1) (h0 : 0 < n) (h1 : n ≤ 4096) (hop : o.op = .makeSlice 30 (.tmp x) (.tmp x))
    (hx : ∀ v w, F x v w → v = .int .i64 n) (hS : ∀ w w2, S w → New w w2 → S w2) (hF : ∀ v w, ownsB (List.replicate n 0) v w → F (o.dst.getD 0) v w) : Body Try.prog ops S New F o := by
  refine body_step fun a w hs hf => ?_
  have hv := hx _ _ (hf x (by unfold opNeeds; simp [hop, Op.operands]))
  obtain ⟨w', hrun, hown, hg⟩ := run_make_full (P := Try.prog) w w.heap.size 30 5 i0 (.int .u8 0) 1 hE.ty hE.info hE.zero hE.hsize .i64 .i64 n (by rw [hE.hbytes]; omega) (by unfold maxLen; omega) (Nat.le_refl _)
  have he : a.eval (.tmp x) = .int .i64 n := by simp [Act.eval, hv]
  have hN : New w w' := Only.ofGrown hg (by simp)
  refine ⟨.slice (some ⟨w.heap.size, 0, none⟩) n n, w', by simp [execOp, hop, he, hrun, Result.andThen], hF _ _ ⟨w.heap.size, n, ?_, ?_⟩, hS _ _ hs hN, hN⟩
  · simp
  · rw [show (Value.int IntKind.u8 0).cells = #[Value.int IntKind.u8 0] from rfl, toList_madeCells_one] at hown
    simpa [u8v] using row_mono hown (Nat.zero_le _)

set_option maxRecDepth 100000 in
set_option maxHeartbeats 16000000 in
theorem walk_ImageMakes (w : World) (v : Value) (hv : ∃ bs, ByteArg2 w v bs) (size : Int) (h1 : (Lit.int .i64 size).wf = true) :
    Calls Try.prog 5 #[v, .int .i64 size] w fun e w' => e = .returned (.bool true) ∧ Below w.heap.size w w' := by
  obtain ⟨bs, hv⟩ := hv
  have hb1 := bounds_i64 h1
  obtain ⟨hb1, hb2⟩ := hb1
  have HV := Lib.hid hv
  obtain ⟨⟨va, cap, rfl, hm, _⟩, _⟩ := hv
  unfold maxLen at hm
  obtain ⟨i0, hE⟩ := elem5
  have HE := Lib.hid hE
  have HSrc := Lib.hid (HV.out.src.new ((Only.refl (fun _ => False) w).alloc (.cells #[] 5)))
  have HO0 := Lib.hid (own_empty w)
  clear hE h1
  by_cases hlen : 10000 < bs.length
  · go_enter Try.func5, Try.ntmps5
    go_wp2_with (go_at_call 14; refine (works_c _).mono ?_; rintro e w2 ⟨rfl, hn⟩; have HN2 := Lib.hid hn; clear hn)
    go_ret
    exact ⟨rfl, HN2.out.nb⟩
  · go_enter Try.func5, Try.ntmps5
    go_wp2_with (first | ((with_reducible refine wpList_append_src (o := ⟨some 17, _, _, _, _, _⟩) ?_ (.tmp 15) (.tmp 16) 30 ?_ 5 i0 (.int .u8 0) 1 1 HE.out w.heap.size (.slice (some ⟨w.heap.size, 0, none⟩) 0 0) 0 [] ?_ HO0.out (.slice va bs.length cap) bs.length (bs.map u8v) ?_ HSrc.out ?_ ?_ ?_ ?_); rfl; rfl; rfl; rfl; (unfold maxLen; omega); omega; (simp); intro v1 w1 hown hgrow _; rw [Nat.zero_add, List.nil_append] at hown; have HO1 := Lib.hid (hown.alloc (.cells #[u8v 77] 5)); have HG1 := Lib.hid (((Only.refl (fun _ => False) w).alloc (.cells #[] 5)).trans (Only.ofGrown (S := fun k => some k = Value.ownBlock (.slice (some ⟨w.heap.size, 0, none⟩) 0 0)) hgrow (fun _ h => h.symm)) (by intro i hi h; simp [Value.ownBlock] at h; omega)); clear hown hgrow; have hsz1 : w.heap.size ≤ w1.heap.size := HG1.out.size; have HS1 := Lib.hid (src_one w1 77)) | ((with_reducible refine wpList_value (o := ⟨some 18, _, _, _, _, _⟩) ?_ (.slice (some ⟨w1.heap.size, 0, none⟩) 1 1) (w1.alloc (.cells #[u8v 77] 5)) ?_ ?_); rfl; exact run_build77 _ rfl rfl w1) | ((with_reducible refine wpList_append_src (o := ⟨some 19, _, _, _, _, _⟩) ?_ (.tmp 17) (.tmp 18) 30 ?_ 5 i0 (.int .u8 0) 1 1 HE.out w.heap.size v1 bs.length (bs.map u8v) ?_ HO1.out (.slice (some ⟨w1.heap.size, 0, none⟩) 1 1) 1 [u8v 77] ?_ HS1.out ?_ ?_ ?_ ?_); rfl; rfl; rfl; rfl; (unfold maxLen; omega); omega; (simp only [World.size_alloc]; omega); intro v2 w2 hown hgrow _; obtain ⟨g, capm, rfl⟩ := row_some hown (by omega); have HO2 := Lib.hid (row_short rfl hown); have hcp : bs.length + 1 ≤ capm := HO2.out.2.2.1; have hcx : capm ≤ maxLen := HO2.out.2.2.2; unfold maxLen at hcx; have HG2 := Lib.hid ((HG1.out.alloc (.cells #[u8v 77] 5)).trans (Only.ofGrown (S := fun k => some k = v1.ownBlock) hgrow (fun _ h => h.symm)) (by intro i hi h; have := HO1.out.lt i h.symm; omega)); clear hown hgrow))
    have hs0 : True := trivial
    have HNm : Hid (New w w2 ∧ w.heap.size ≤ g) := ⟨HG2.out, HO2.out.1.lt g (by simp [Value.ownBlock]) |>.1⟩
    by_cases hb : okSize bs.length = true
    · have HB := Lib.hid hb
      by_cases hz : okSize size = true
      · have HZ := Lib.hid hz
        clear hb hz
        obtain ⟨sz, rfl⟩ := Int.eq_ofNat_of_zero_le (show 0 ≤ size by have := okSize_range HZ.out; omega)
        have HSb : Hid (∀ w, Calls Try.prog 12 #[.int .i64 bs.length] w fun e w' => e = .returned (.bool true) ∧ w = w') := by intro w; have := refsize_c bs.length w; rwa [HB.out] at this
        have HSz : Hid (∀ w, Calls Try.prog 12 #[.int .i64 (sz : Int)] w fun e w' => e = .returned (.bool true) ∧ w = w') := by intro w; have := refsize_c (sz : Int) w; rwa [HZ.out] at this
        refine (of_yes g 0 _ capm bs _ rfl (own_bytes HO2.out.1) HB.out).mono ?_
        rintro e w3 ⟨bx, gx, capx, rfl, hi, hn⟩
        have HIx := Lib.hid hi
        have HN3 := Lib.hid hn
        clear hi hn
        go_wp2_with fail
        refine (new_yes sz _ HZ.out).mono ?_
        rintro e w4 ⟨by_, gy, capy, rfl, hi, hn⟩
        have HIy := Lib.hid hi
        have HN4 := Lib.hid hn
        clear hi hn
        have HNN := Lib.hid (HN3.out.tr HN4.out)
        have HRm := Lib.hid (HNN.out.row HO2.out.1 (by simp))
        have hcb := (HV.out.new (HNm.out.1.tr HNN.out)).conv
        have hcm := conv_own HRm.out
        have h77 : w4.cell? ⟨g, bs.length, none⟩ = some (.int .u8 77) := HNN.out.cell HO2.out.2.1 id
        go_wp2_with (first | (go_at_call 13; refine (num_c _ _).mono ?_; rintro e w' ⟨rfl, rfl⟩) | (go_at_call 12; (with_reducible refine (HSb.out _).mono ?_); rintro e w' ⟨rfl, rfl⟩) | (go_at_call 12; (with_reducible refine (HSz.out _).mono ?_); rintro e w' ⟨rfl, rfl⟩))
        go_loopw [10] (fun i wr => ∃ (k : Nat) (xs : List UInt8), k ≤ bs.length ∧ i = .int .i64 k ∧ xs.length = bs.length ∧ wr.ownsRow w.heap.size 5 1 (.slice (some ⟨g, 0, none⟩) bs.length capm) bs.length (xs.map u8v) ∧ Only (fun k => k = g) w4 wr) (fun i _ => bs.length - (intOf i).toNat)
        case atStart => exact ⟨0, bs, by omega, rfl, rfl, HRm.out, Only.refl _ _⟩
        case round =>
          obtain ⟨k, xs, hk, rfl, hxs, hrw, hnw⟩ := hrel
          have HXs := Lib.hid hxs
          have HRW := Lib.hid hrw
          have HNW := Lib.hid hnw
          clear hrw hnw hxs
          by_cases hlt : k < bs.length
          · have hkx : k < xs.length := by have := HXs.out; omega
            have hck : wr.cell? ⟨g, k, none⟩ = some (.int .u8 (xs[k].toNat : Int)) := by rw [row_cell HRW.out (by omega)]; exact get_u8v hkx
            have hfk : wr.frozen? ⟨g, k, none⟩ = false := HRW.out.frozenAt _
            obtain ⟨y, hy⟩ := byte_succ xs[k]
            have HY := Lib.hid hy
            have HSt := Lib.hid (HRW.out.stored k (u8v y))
            clear hy
            go_wp2
            go_roundw
            case rel =>
              refine ⟨k + 1, xs.set k y, by omega, by go_num, by simpa using HXs.out, ?_, HNW.out.setCell (fun _ => rfl) _⟩
              rw [List.map_set, ← HY.out]
              exact HSt.out.1
            case measure => simp [intOf]; omega
          · obtain rfl : k = bs.length := by omega
            have HNr : Hid (New w wr) := (HNm.out.1.tr HNN.out).trans HNW.out (by intro i hi he; have := HNm.out.2; omega)
            go_wp2
            refine wp_region_facts (S := fun W => ByteArg2 W (.slice va bs.length cap) bs ∧ Img 0 W bx gx capx bs ∧ Img 0 W by_ gy capy (List.replicate sz 0)) New (FT (M1411 bx va cap bs)) [7, 6, 0] 140 (by kernel_rfl) (by kernel_rfl) rfl new_re new_tr (Stab.ft ?_) ?_ ?_ ?_ ?_
            · unfold M1411
              repeat (first | exact stab_nil | refine stab_is ?_ | refine ownsB_new ?_)
            · exact ⟨HV.out.new (HNr.out.tr (new_dr _)), (((HIx.out.new HN4.out).only HNW.out (by intro h; have h1 := HIx.out.hb; have h2 := (row_lt HO2.out.1).2; have h3 := HN3.out.size; omega) (by intro h; have h1 := HIx.out.hg; have h2 := (row_lt HO2.out.1).2; have h3 := HN3.out.size; omega)).new (new_dr _)).mono (Nat.zero_le _), ((HIy.out.only HNW.out (by intro h; have h1 := HIy.out.hb; have h2 := (row_lt HO2.out.1).2; have h3 := HN3.out.size; omega) (by intro h; have h1 := HIy.out.hg; have h2 := (row_lt HO2.out.1).2; have h3 := HN3.out.size; omega)).new (new_dr _)).mono (Nat.zero_le _)⟩
            · intro t ht
              simp only [List.mem_cons, List.not_mem_nil, or_false] at ht
              rcases ht with rfl | rfl | rfl
              · rfl
              · rfl
              · rfl
            · refine ⟨?_, ?_, ?_, ?_, ?_, ?_, ?_, ?_, ?_, ?_, ?_, ?_, ?_, ?_, ?_, ?_, ?_, ?_, trivial⟩
              · exact fs_plain rfl (body_move new_re (t := 7) (.inl rfl) fun _ _ h => h)
              · refine fs_plain rfl (body_call fun aa ww hs hf => ?_)
                have h107 : aa.tmps[107]?.getD undef = (.int .i64 0) := hf 107 (by decide)
                refine ⟨13, #[.int .i64 0], by simp [go_sem, h107], ?_⟩
                exact (num_c 0 ww).mono fun e w'' ⟨he, hn⟩ => by subst hn; exact ⟨_, he, rfl, hs, new_re _⟩
              · refine fs_plain rfl (body_val new_re fun aa ww hs hf => ?_)
                have h108 : aa.tmps[108]?.getD undef = (.int .i64 0) := hf 108 (by decide)
                exact ⟨(.bool true), by simp [go_sem, h108], rfl⟩
              · exact fs_plain rfl (body_move new_re (t := 109) (.inl rfl) fun _ _ h => h)
              · exact fs_guard 110 rfl rfl (fun _ _ h => h) (body_move new_re (t := 6) (.inl rfl) fun _ _ h => h)
              · refine fs_guard 110 rfl rfl (fun _ _ h => h) (body_call fun aa ww hs hf => ?_)
                have h111 : aa.tmps[111]?.getD undef = (.pointer (some ⟨bx, 0, none⟩)) := hf 111 (by decide)
                refine ⟨19, #[.pointer (some ⟨bx, 0, none⟩)], by simp [go_sem, h111], ?_⟩
                exact (bytes_some hs.2.1).mono fun e w'' ⟨v, he, ho, hn⟩ => by obtain ⟨g, cap, rfl⟩ := row_some ho (by have := hs.2.1.pos; omega); exact ⟨_, he, ⟨g, cap, rfl, row_mono ho (Nat.zero_le _)⟩, ⟨hs.1.new hn, hs.2.1.new hn, hs.2.2.new hn⟩, hn⟩
              · refine fs_guard 110 rfl rfl (fun _ _ h => h) (body_val new_re fun aa ww hs hf => ?_)
                have h112 : ownsB bs (aa.tmps[112]?.getD undef) ww := hf 112 (by decide)
                obtain ⟨gg, cc, hg1, hg2⟩ := h112
                rw [hg1] at hg2
                have hc := conv_own hg2
                exact ⟨(.string (str bs)), by simp [go_sem, hg1, hc], rfl⟩
              · exact fs_guard 110 rfl rfl (fun _ _ h => h) (body_move new_re (t := 0) (.inl rfl) fun _ _ h => h)
              · refine fs_guard 110 rfl rfl (fun _ _ h => h) (body_val new_re fun aa ww hs hf => ?_)
                have h114 : aa.tmps[114]?.getD undef = (.slice va bs.length cap) := hf 114 (by decide)
                have hc := hs.1.conv
                exact ⟨(.string (str bs)), by simp [go_sem, h114, hc], rfl⟩
              · refine fs_guard 110 rfl rfl (fun _ _ h => h) (body_val new_re fun aa ww hs hf => ?_)
                have h113 : aa.tmps[113]?.getD undef = (.string (str bs)) := hf 113 (by decide)
                have h115 : aa.tmps[115]?.getD undef = (.string (str bs)) := hf 115 (by decide)
                exact ⟨(.bool false), by simp [go_sem, h113, h115, hs0], rfl⟩
              · exact fs_guard 110 rfl rfl (fun _ _ h => h) (body_move new_re (t := 116) (.inl rfl) fun _ _ h => h)
              · exact fs_guard 117 rfl rfl (fun _ _ h => h) (body_move new_re (t := 6) (.inl rfl) fun _ _ h => h)
              · refine fs_guard 117 rfl rfl (fun _ _ h => h) (body_call fun aa ww hs hf => ?_)
                have h118 : aa.tmps[118]?.getD undef = (.pointer (some ⟨bx, 0, none⟩)) := hf 118 (by decide)
                refine ⟨15, #[.pointer (some ⟨bx, 0, none⟩)], by simp [go_sem, h118], ?_⟩
                exact (size_some bx _ _ _ ww hs.2.1.cell).mono fun e w'' ⟨he, hn⟩ => by subst hn; exact ⟨_, he, rfl, hs, new_re _⟩
              · exact fs_guard 117 rfl rfl (fun _ _ h => h) (body_move new_re (t := 0) (.inl rfl) fun _ _ h => h)
              · refine fs_guard 117 rfl rfl (fun _ _ h => h) (body_val new_re fun aa ww hs hf => ?_)
                have h120 : aa.tmps[120]?.getD undef = (.slice va bs.length cap) := hf 120 (by decide)
                exact ⟨(.int .i64 bs.length), by simp [go_sem, h120], rfl⟩
              · refine fs_guard 117 rfl rfl (fun _ _ h => h) (body_val new_re fun aa ww hs hf => ?_)
                have h119 : aa.tmps[119]?.getD undef = (.int .i64 bs.length) := hf 119 (by decide)
                have h121 : aa.tmps[121]?.getD undef = (.int .i64 bs.length) := hf 121 (by decide)
                exact ⟨(.bool false), by simp [go_sem, h119, h121], rfl⟩
              · refine fs_guard 110 rfl rfl (fun _ _ h => h) (body_val new_re fun aa ww hs hf => ?_)
                have h117 : aa.tmps[117]?.getD undef = (.bool false) := hf 117 (by decide)
                have h122 : aa.tmps[122]?.getD undef = (.bool false) := hf 122 (by decide)
                exact ⟨(.bool false), by simp [go_sem, h117, h122], rfl⟩
              · exact fs_plain rfl (body_pick new_re (c := 110) (x := 123) rfl (fun _ _ h => h) fun _ _ h => h)
            · intro A W hw
              obtain ⟨v112, hv112⟩ : ∃ v, A.tmps.getD 112 undef = v := ⟨_, rfl⟩
              have hlit := hw.lit [(107, .int .i64 0), (108, .int .i64 0), (109, .bool true), (110, .bool true), (111, .pointer (some ⟨bx, 0, none⟩)), (112, v112), (113, .string (str bs)), (114, .slice va bs.length cap), (115, .string (str bs)), (116, .bool false), (117, .bool false), (118, .pointer (some ⟨bx, 0, none⟩)), (119, .int .i64 bs.length), (120, .slice va bs.length cap), (121, .int .i64 bs.length), (122, .bool false), (123, .bool false), (124, .bool false)] (by
                intro p hp
                simp only [List.mem_cons, List.not_mem_nil, or_false] at hp
                rcases hp with rfl | rfl | rfl | rfl | rfl | rfl | rfl | rfl | rfl | rfl | rfl | rfl | rfl | rfl | rfl | rfl | rfl | rfl
                · exact hw.facts 0 107 rfl rfl
                · exact hw.facts 1 108 rfl rfl
                · exact hw.facts 2 109 rfl rfl
                · exact hw.facts 3 110 rfl rfl
                · exact hw.facts 4 111 rfl rfl
                · exact hv112
                · exact hw.facts 6 113 rfl rfl
                · exact hw.facts 7 114 rfl rfl
                · exact hw.facts 8 115 rfl rfl
                · exact hw.facts 9 116 rfl rfl
                · exact hw.facts 10 117 rfl rfl
                · exact hw.facts 11 118 rfl rfl
                · exact hw.facts 12 119 rfl rfl
                · exact hw.facts 13 120 rfl rfl
                · exact hw.facts 14 121 rfl rfl
                · exact hw.facts 15 122 rfl rfl
                · exact hw.facts 16 123 rfl rfl
                · exact hw.facts 17 124 rfl rfl) (by kernel_rfl)
              clear hv112
              have HWs := Lib.hid hw.s
              have HWe := Lib.hid hw.ext
              clear hw
              subst hlit
              simp only [List.foldl_cons, List.foldl_nil, List.setIfInBounds_toArray, List.set_cons_succ, List.set_cons_zero]
              go_wp2
              refine wp_region_facts (S := fun W => ByteArg2 W (.slice va bs.length cap) bs ∧ Img 0 W bx gx capx bs ∧ Img 0 W by_ gy capy (List.replicate sz 0)) New (FT (M1611 by_ sz)) [9, 8, 1] 140 (by kernel_rfl) (by kernel_rfl) rfl new_re new_tr (Stab.ft ?_) ?_ ?_ ?_ ?_
              · unfold M1611
                repeat (first | exact stab_nil | refine stab_is ?_ | refine ownsB_new ?_)
              · exact ⟨HWs.out.1.new (new_dr _), HWs.out.2.1.new (new_dr _), HWs.out.2.2.new (new_dr _)⟩
              · intro t ht
                simp only [List.mem_cons, List.not_mem_nil, or_false] at ht
                rcases ht with rfl | rfl | rfl
                · rfl
                · rfl
                · rfl
              · refine ⟨?_, ?_, ?_, ?_, ?_, ?_, ?_, ?_, ?_, ?_, ?_, ?_, ?_, ?_, ?_, ?_, trivial⟩
                · exact fs_plain rfl (body_move new_re (t := 9) (.inl rfl) fun _ _ h => h)
                · refine fs_plain rfl (body_call fun aa ww hs hf => ?_)
                  have h125 : aa.tmps[125]?.getD undef = (.int .i64 0) := hf 125 (by decide)
                  refine ⟨13, #[.int .i64 0], by simp [go_sem, h125], ?_⟩
                  exact (num_c 0 ww).mono fun e w'' ⟨he, hn⟩ => by subst hn; exact ⟨_, he, rfl, hs, new_re _⟩
                · refine fs_plain rfl (body_val new_re fun aa ww hs hf => ?_)
                  have h126 : aa.tmps[126]?.getD undef = (.int .i64 0) := hf 126 (by decide)
                  exact ⟨(.bool false), by simp [go_sem, h126], rfl⟩
                · exact fs_plain rfl (body_move new_re (t := 127) (.inl rfl) fun _ _ h => h)
                · exact fs_guard 128 rfl rfl (fun _ _ h => h) (body_move new_re (t := 8) (.inl rfl) fun _ _ h => h)
                · refine fs_guard 128 rfl rfl (fun _ _ h => h) (body_call fun aa ww hs hf => ?_)
                  have h129 : aa.tmps[129]?.getD undef = (.pointer (some ⟨by_, 0, none⟩)) := hf 129 (by decide)
                  refine ⟨19, #[.pointer (some ⟨by_, 0, none⟩)], by simp [go_sem, h129], ?_⟩
                  exact (bytes_some hs.2.2).mono fun e w'' ⟨v, he, ho, hn⟩ => by obtain ⟨g, cap, rfl⟩ := row_some ho (by have := hs.2.2.pos; omega); exact ⟨_, he, ⟨g, cap, rfl, row_mono ho (Nat.zero_le _)⟩, ⟨hs.1.new hn, hs.2.1.new hn, hs.2.2.new hn⟩, hn⟩
                · refine fs_guard 128 rfl rfl (fun _ _ h => h) (body_val new_re fun aa ww hs hf => ?_)
                  have h130 : ownsB (List.replicate sz 0) (aa.tmps[130]?.getD undef) ww := hf 130 (by decide)
                  obtain ⟨gg, cc, hg1, hg2⟩ := h130
                  rw [hg1] at hg2
                  have hc := conv_own hg2
                  simp only [List.length_replicate] at hc
                  exact ⟨(.string (str (List.replicate sz 0))), by simp [go_sem, hg1, hc], rfl⟩
                · exact fs_guard 128 rfl rfl (fun _ _ h => h) (body_move new_re (t := 1) (.inl rfl) fun _ _ h => h)
                · exact fs_guard 128 rfl rfl (fun _ _ h => h) (body_made HE.out (by have := okSize_range HZ.out; omega) (by have := okSize_range HZ.out; omega) rfl (fun _ _ h => h) (fun w w2 hs hn => ⟨hs.1.new hn, hs.2.1.new hn, hs.2.2.new hn⟩) (fun _ _ h => h))
                · refine fs_guard 128 rfl rfl (fun _ _ h => h) (body_val new_re fun aa ww hs hf => ?_)
                  have h133 : ownsB (List.replicate sz 0) (aa.tmps[133]?.getD undef) ww := hf 133 (by decide)
                  obtain ⟨gg, cc, hg1, hg2⟩ := h133
                  rw [hg1] at hg2
                  have hc := conv_own hg2
                  simp only [List.length_replicate] at hc
                  exact ⟨(.string (str (List.replicate sz 0))), by simp [go_sem, hg1, hc], rfl⟩
                · refine fs_guard 128 rfl rfl (fun _ _ h => h) (body_val new_re fun aa ww hs hf => ?_)
                  have h131 : aa.tmps[131]?.getD undef = (.string (str (List.replicate sz 0))) := hf 131 (by decide)
                  have h134 : aa.tmps[134]?.getD undef = (.string (str (List.replicate sz 0))) := hf 134 (by decide)
                  exact ⟨(.bool true), by simp [go_sem, h131, h134, hs0], rfl⟩
                · refine fs_plain rfl (body_val new_re fun aa ww hs hf => ?_)
                  have h128 : aa.tmps[128]?.getD undef = (.bool false) := hf 128 (by decide)
                  have h135 : aa.tmps[135]?.getD undef = (.bool true) := hf 135 (by decide)
                  exact ⟨(.bool true), by simp [go_sem, h128, h135], rfl⟩
                · exact fs_plain rfl (body_move new_re (t := 136) (.inl rfl) fun _ _ h => h)
                · refine fs_guard 137 rfl rfl (fun _ _ h => h) (body_call fun aa ww hs hf => ?_)
                  refine ⟨14, #[], by simp [go_sem], ?_⟩
                  exact (works_c ww).mono fun e w'' ⟨he, hn⟩ => ⟨_, he, rfl, ⟨hs.1.new hn, hs.2.1.new hn, hs.2.2.new hn⟩, hn⟩
                · exact fs_plain rfl (body_pick new_re (c := 137) (x := 138) rfl (fun _ _ h => h) fun _ _ h => h)
                · exact fs_plain rfl (body_move new_re (t := 139) (.inr rfl) fun _ _ h => h)
              · intro a w hw
                go_wp2
                refine ⟨hw.defers, _, results_tmp rfl _ _ _, ?_⟩
                rw [show a.tmps.getD 4 undef = .bool true from hw.facts 15 4 rfl rfl]
                exact ⟨rfl, ((((HNr.out.tr (new_dr _)).tr HWe.out).tr (new_dr _)).tr hw.ext).nb⟩
      · have HZ : Hid (okSize size = false) := by show _ = _; simpa using hz
        clear hb hz
        have HSb : Hid (∀ w, Calls Try.prog 12 #[.int .i64 bs.length] w fun e w' => e = .returned (.bool true) ∧ w = w') := by intro w; have := refsize_c bs.length w; rwa [HB.out] at this
        have HSz : Hid (∀ w, Calls Try.prog 12 #[.int .i64 size] w fun e w' => e = .returned (.bool false) ∧ w = w') := by intro w; have := refsize_c size w; rwa [HZ.out] at this
        refine (of_yes g 0 _ capm bs _ rfl (own_bytes HO2.out.1) HB.out).mono ?_
        rintro e w3 ⟨bx, gx, capx, rfl, hi, hn⟩
        have HIx := Lib.hid hi
        have HN3 := Lib.hid hn
        clear hi hn
        go_wp2_with fail
        refine (new_no size _ HZ.out).mono ?_
        rintro e w4 ⟨rfl, rfl⟩
        have HN4 : Hid (New w3 w3) := new_re w3
        have HNN := Lib.hid (HN3.out.tr HN4.out)
        have HRm := Lib.hid (HNN.out.row HO2.out.1 (by simp))
        have hcb := (HV.out.new (HNm.out.1.tr HNN.out)).conv
        have hcm := conv_own HRm.out
        have h77 : w3.cell? ⟨g, bs.length, none⟩ = some (.int .u8 77) := HNN.out.cell HO2.out.2.1 id
        go_wp2_with (first | (go_at_call 13; refine (num_c _ _).mono ?_; rintro e w' ⟨rfl, rfl⟩) | (go_at_call 12; (with_reducible refine (HSb.out _).mono ?_); rintro e w' ⟨rfl, rfl⟩) | (go_at_call 12; (with_reducible refine (HSz.out _).mono ?_); rintro e w' ⟨rfl, rfl⟩))
        go_loopw [10] (fun i wr => ∃ (k : Nat) (xs : List UInt8), k ≤ bs.length ∧ i = .int .i64 k ∧ xs.length = bs.length ∧ wr.ownsRow w.heap.size 5 1 (.slice (some ⟨g, 0, none⟩) bs.length capm) bs.length (xs.map u8v) ∧ Only (fun k => k = g) w3 wr) (fun i _ => bs.length - (intOf i).toNat)
        case atStart => exact ⟨0, bs, by omega, rfl, rfl, HRm.out, Only.refl _ _⟩
        case round =>
          obtain ⟨k, xs, hk, rfl, hxs, hrw, hnw⟩ := hrel
          have HXs := Lib.hid hxs
          have HRW := Lib.hid hrw
          have HNW := Lib.hid hnw
          clear hrw hnw hxs
          by_cases hlt : k < bs.length
          · have hkx : k < xs.length := by have := HXs.out; omega
            have hck : wr.cell? ⟨g, k, none⟩ = some (.int .u8 (xs[k].toNat : Int)) := by rw [row_cell HRW.out (by omega)]; exact get_u8v hkx
            have hfk : wr.frozen? ⟨g, k, none⟩ = false := HRW.out.frozenAt _
            obtain ⟨y, hy⟩ := byte_succ xs[k]
            have HY := Lib.hid hy
            have HSt := Lib.hid (HRW.out.stored k (u8v y))
            clear hy
            go_wp2
            go_roundw
            case rel =>
              refine ⟨k + 1, xs.set k y, by omega, by go_num, by simpa using HXs.out, ?_, HNW.out.setCell (fun _ => rfl) _⟩
              rw [List.map_set, ← HY.out]
              exact HSt.out.1
            case measure => simp [intOf]; omega
          · obtain rfl : k = bs.length := by omega
            have HNr : Hid (New w wr) := (HNm.out.1.tr HNN.out).trans HNW.out (by intro i hi he; have := HNm.out.2; omega)
            go_wp2
            refine wp_region_facts (S := fun W => ByteArg2 W (.slice va bs.length cap) bs ∧ Img 0 W bx gx capx bs ∧ True) New (FT (M1410 bx va cap bs)) [7, 6, 0] 140 (by kernel_rfl) (by kernel_rfl) rfl new_re new_tr (Stab.ft ?_) ?_ ?_ ?_ ?_
            · unfold M1410
              repeat (first | exact stab_nil | refine stab_is ?_ | refine ownsB_new ?_)
            · exact ⟨HV.out.new (HNr.out.tr (new_dr _)), (((HIx.out.new HN4.out).only HNW.out (by intro h; have h1 := HIx.out.hb; have h2 := (row_lt HO2.out.1).2; have h3 := HN3.out.size; omega) (by intro h; have h1 := HIx.out.hg; have h2 := (row_lt HO2.out.1).2; have h3 := HN3.out.size; omega)).new (new_dr _)).mono (Nat.zero_le _), trivial⟩
            · intro t ht
              simp only [List.mem_cons, List.not_mem_nil, or_false] at ht
              rcases ht with rfl | rfl | rfl
              · rfl
              · rfl
              · rfl
            · refine ⟨?_, ?_, ?_, ?_, ?_, ?_, ?_, ?_, ?_, ?_, ?_, ?_, ?_, ?_, ?_, ?_, ?_, ?_, trivial⟩
              · exact fs_plain rfl (body_move new_re (t := 7) (.inl rfl) fun _ _ h => h)
              · refine fs_plain rfl (body_call fun aa ww hs hf => ?_)
                have h107 : aa.tmps[107]?.getD undef = (.int .i64 0) := hf 107 (by decide)
                refine ⟨13, #[.int .i64 0], by simp [go_sem, h107], ?_⟩
                exact (num_c 0 ww).mono fun e w'' ⟨he, hn⟩ => by subst hn; exact ⟨_, he, rfl, hs, new_re _⟩
              · refine fs_plain rfl (body_val new_re fun aa ww hs hf => ?_)
                have h108 : aa.tmps[108]?.getD undef = (.int .i64 0) := hf 108 (by decide)
                exact ⟨(.bool true), by simp [go_sem, h108], rfl⟩
              · exact fs_plain rfl (body_move new_re (t := 109) (.inl rfl) fun _ _ h => h)
              · exact fs_guard 110 rfl rfl (fun _ _ h => h) (body_move new_re (t := 6) (.inl rfl) fun _ _ h => h)
              · refine fs_guard 110 rfl rfl (fun _ _ h => h) (body_call fun aa ww hs hf => ?_)
                have h111 : aa.tmps[111]?.getD undef = (.pointer (some ⟨bx, 0, none⟩)) := hf 111 (by decide)
                refine ⟨19, #[.pointer (some ⟨bx, 0, none⟩)], by simp [go_sem, h111], ?_⟩
                exact (bytes_some hs.2.1).mono fun e w'' ⟨v, he, ho, hn⟩ => by obtain ⟨g, cap, rfl⟩ := row_some ho (by have := hs.2.1.pos; omega); exact ⟨_, he, ⟨g, cap, rfl, row_mono ho (Nat.zero_le _)⟩, ⟨hs.1.new hn, hs.2.1.new hn, trivial⟩, hn⟩
              · refine fs_guard 110 rfl rfl (fun _ _ h => h) (body_val new_re fun aa ww hs hf => ?_)
                have h112 : ownsB bs (aa.tmps[112]?.getD undef) ww := hf 112 (by decide)
                obtain ⟨gg, cc, hg1, hg2⟩ := h112
                rw [hg1] at hg2
                have hc := conv_own hg2
                exact ⟨(.string (str bs)), by simp [go_sem, hg1, hc], rfl⟩
              · exact fs_guard 110 rfl rfl (fun _ _ h => h) (body_move new_re (t := 0) (.inl rfl) fun _ _ h => h)
              · refine fs_guard 110 rfl rfl (fun _ _ h => h) (body_val new_re fun aa ww hs hf => ?_)
                have h114 : aa.tmps[114]?.getD undef = (.slice va bs.length cap) := hf 114 (by decide)
                have hc := hs.1.conv
                exact ⟨(.string (str bs)), by simp [go_sem, h114, hc], rfl⟩
              · refine fs_guard 110 rfl rfl (fun _ _ h => h) (body_val new_re fun aa ww hs hf => ?_)
                have h113 : aa.tmps[113]?.getD undef = (.string (str bs)) := hf 113 (by decide)
                have h115 : aa.tmps[115]?.getD undef = (.string (str bs)) := hf 115 (by decide)
                exact ⟨(.bool false), by simp [go_sem, h113, h115, hs0], rfl⟩
              · exact fs_guard 110 rfl rfl (fun _ _ h => h) (body_move new_re (t := 116) (.inl rfl) fun _ _ h => h)
              · exact fs_guard 117 rfl rfl (fun _ _ h => h) (body_move new_re (t := 6) (.inl rfl) fun _ _ h => h)
              · refine fs_guard 117 rfl rfl (fun _ _ h => h) (body_call fun aa ww hs hf => ?_)
                have h118 : aa.tmps[118]?.getD undef = (.pointer (some ⟨bx, 0, none⟩)) := hf 118 (by decide)
                refine ⟨15, #[.pointer (some ⟨bx, 0, none⟩)], by simp [go_sem, h118], ?_⟩
                exact (size_some bx _ _ _ ww hs.2.1.cell).mono fun e w'' ⟨he, hn⟩ => by subst hn; exact ⟨_, he, rfl, hs, new_re _⟩
              · exact fs_guard 117 rfl rfl (fun _ _ h => h) (body_move new_re (t := 0) (.inl rfl) fun _ _ h => h)
              · refine fs_guard 117 rfl rfl (fun _ _ h => h) (body_val new_re fun aa ww hs hf => ?_)
                have h120 : aa.tmps[120]?.getD undef = (.slice va bs.length cap) := hf 120 (by decide)
                exact ⟨(.int .i64 bs.length), by simp [go_sem, h120], rfl⟩
              · refine fs_guard 117 rfl rfl (fun _ _ h => h) (body_val new_re fun aa ww hs hf => ?_)
                have h119 : aa.tmps[119]?.getD undef = (.int .i64 bs.length) := hf 119 (by decide)
                have h121 : aa.tmps[121]?.getD undef = (.int .i64 bs.length) := hf 121 (by decide)
                exact ⟨(.bool false), by simp [go_sem, h119, h121], rfl⟩
              · refine fs_guard 110 rfl rfl (fun _ _ h => h) (body_val new_re fun aa ww hs hf => ?_)
                have h117 : aa.tmps[117]?.getD undef = (.bool false) := hf 117 (by decide)
                have h122 : aa.tmps[122]?.getD undef = (.bool false) := hf 122 (by decide)
                exact ⟨(.bool false), by simp [go_sem, h117, h122], rfl⟩
              · exact fs_plain rfl (body_pick new_re (c := 110) (x := 123) rfl (fun _ _ h => h) fun _ _ h => h)
            · intro A W hw
              obtain ⟨v112, hv112⟩ : ∃ v, A.tmps.getD 112 undef = v := ⟨_, rfl⟩
              have hlit := hw.lit [(107, .int .i64 0), (108, .int .i64 0), (109, .bool true), (110, .bool true), (111, .pointer (some ⟨bx, 0, none⟩)), (112, v112), (113, .string (str bs)), (114, .slice va bs.length cap), (115, .string (str bs)), (116, .bool false), (117, .bool false), (118, .pointer (some ⟨bx, 0, none⟩)), (119, .int .i64 bs.length), (120, .slice va bs.length cap), (121, .int .i64 bs.length), (122, .bool false), (123, .bool false), (124, .bool false)] (by
                intro p hp
                simp only [List.mem_cons, List.not_mem_nil, or_false] at hp
                rcases hp with rfl | rfl | rfl | rfl | rfl | rfl | rfl | rfl | rfl | rfl | rfl | rfl | rfl | rfl | rfl | rfl | rfl | rfl
                · exact hw.facts 0 107 rfl rfl
                · exact hw.facts 1 108 rfl rfl
                · exact hw.facts 2 109 rfl rfl
                · exact hw.facts 3 110 rfl rfl
                · exact hw.facts 4 111 rfl rfl
                · exact hv112
                · exact hw.facts 6 113 rfl rfl
                · exact hw.facts 7 114 rfl rfl
                · exact hw.facts 8 115 rfl rfl
                · exact hw.facts 9 116 rfl rfl
                · exact hw.facts 10 117 rfl rfl
                · exact hw.facts 11 118 rfl rfl
                · exact hw.facts 12 119 rfl rfl
                · exact hw.facts 13 120 rfl rfl
                · exact hw.facts 14 121 rfl rfl
                · exact hw.facts 15 122 rfl rfl
                · exact hw.facts 16 123 rfl rfl
                · exact hw.facts 17 124 rfl rfl) (by kernel_rfl)
              clear hv112
              have HWs := Lib.hid hw.s
              have HWe := Lib.hid hw.ext
              clear hw
              subst hlit
              simp only [List.foldl_cons, List.foldl_nil, List.setIfInBounds_toArray, List.set_cons_succ, List.set_cons_zero]
              go_wp2
              refine wp_region_facts (S := fun W => ByteArg2 W (.slice va bs.length cap) bs ∧ Img 0 W bx gx capx bs ∧ True) New (FT (M1610 size)) [9, 8, 1] 140 (by kernel_rfl) (by kernel_rfl) rfl new_re new_tr (Stab.ft ?_) ?_ ?_ ?_ ?_
              · unfold M1610
                repeat (first | exact stab_nil | refine stab_is ?_ | refine ownsB_new ?_)
              · exact ⟨HWs.out.1.new (new_dr _), HWs.out.2.1.new (new_dr _), trivial⟩
              · intro t ht
                simp only [List.mem_cons, List.not_mem_nil, or_false] at ht
                rcases ht with rfl | rfl | rfl
                · rfl
                · rfl
                · rfl
              · refine ⟨?_, ?_, ?_, ?_, ?_, ?_, ?_, ?_, ?_, ?_, ?_, ?_, ?_, ?_, ?_, ?_, trivial⟩
                · exact fs_plain rfl (body_move new_re (t := 9) (.inl rfl) fun _ _ h => h)
                · refine fs_plain rfl (body_call fun aa ww hs hf => ?_)
                  have h125 : aa.tmps[125]?.getD undef = (.int .i64 2) := hf 125 (by decide)
                  refine ⟨13, #[.int .i64 2], by simp [go_sem, h125], ?_⟩
                  exact (num_c 2 ww).mono fun e w'' ⟨he, hn⟩ => by subst hn; exact ⟨_, he, rfl, hs, new_re _⟩
                · refine fs_plain rfl (body_val new_re fun aa ww hs hf => ?_)
                  have h126 : aa.tmps[126]?.getD undef = (.int .i64 2) := hf 126 (by decide)
                  exact ⟨(.bool true), by simp [go_sem, h126], rfl⟩
                · exact fs_plain rfl (body_move new_re (t := 127) (.inl rfl) fun _ _ h => h)
                · exact step_skip (t := 128) rfl rfl (fun _ _ h => h) (fun _ _ => rfl)
                · exact step_skip (t := 128) rfl rfl (fun _ _ h => h) (fun _ _ => rfl)
                · exact step_skip (t := 128) rfl rfl (fun _ _ h => h) (fun _ _ => rfl)
                · exact step_skip (t := 128) rfl rfl (fun _ _ h => h) (fun _ _ => rfl)
                · exact step_skip (t := 128) rfl rfl (fun _ _ h => h) (fun _ _ => rfl)
                · exact step_skip (t := 128) rfl rfl (fun _ _ h => h) (fun _ _ => rfl)
                · exact step_skip (t := 128) rfl rfl (fun _ _ h => h) (fun _ _ => rfl)
                · refine fs_plain rfl (body_val new_re fun aa ww hs hf => ?_)
                  have h128 : aa.tmps[128]?.getD undef = (.bool true) := hf 128 (by decide)
                  have h135 : aa.tmps[135]?.getD undef = undef := hf 135 (by decide)
                  exact ⟨(.bool true), by simp [go_sem, h128, h135], rfl⟩
                · exact fs_plain rfl (body_move new_re (t := 136) (.inl rfl) fun _ _ h => h)
                · refine fs_guard 137 rfl rfl (fun _ _ h => h) (body_call fun aa ww hs hf => ?_)
                  refine ⟨14, #[], by simp [go_sem], ?_⟩
                  exact (works_c ww).mono fun e w'' ⟨he, hn⟩ => ⟨_, he, rfl, ⟨hs.1.new hn, hs.2.1.new hn, trivial⟩, hn⟩
                · exact fs_plain rfl (body_pick new_re (c := 137) (x := 138) rfl (fun _ _ h => h) fun _ _ h => h)
                · exact fs_plain rfl (body_move new_re (t := 139) (.inr rfl) fun _ _ h => h)
              · intro a w hw
                go_wp2
                refine ⟨hw.defers, _, results_tmp rfl _ _ _, ?_⟩
                rw [show a.tmps.getD 4 undef = .bool true from hw.facts 15 4 rfl rfl]
                exact ⟨rfl, ((((HNr.out.tr (new_dr _)).tr HWe.out).tr (new_dr _)).tr hw.ext).nb⟩
    · have HB : Hid (okSize bs.length = false) := by show _ = _; simpa using hb
      by_cases hz : okSize size = true
      · have HZ := Lib.hid hz
        clear hb hz
        obtain ⟨sz, rfl⟩ := Int.eq_ofNat_of_zero_le (show 0 ≤ size by have := okSize_range HZ.out; omega)
        have HSb : Hid (∀ w, Calls Try.prog 12 #[.int .i64 bs.length] w fun e w' => e = .returned (.bool false) ∧ w = w') := by intro w; have := refsize_c bs.length w; rwa [HB.out] at this
        have HSz : Hid (∀ w, Calls Try.prog 12 #[.int .i64 (sz : Int)] w fun e w' => e = .returned (.bool true) ∧ w = w') := by intro w; have := refsize_c (sz : Int) w; rwa [HZ.out] at this
        refine (of_no _ _ _ _ rfl _ HB.out).mono ?_
        rintro e w3 ⟨rfl, rfl⟩
        have HN3 : Hid (New w2 w2) := new_re w2
        go_wp2_with fail
        refine (new_yes sz _ HZ.out).mono ?_
        rintro e w4 ⟨by_, gy, capy, rfl, hi, hn⟩
        have HIy := Lib.hid hi
        have HN4 := Lib.hid hn
        clear hi hn
        have HNN := Lib.hid (HN3.out.tr HN4.out)
        have HRm := Lib.hid (HNN.out.row HO2.out.1 (by simp))
        have hcb := (HV.out.new (HNm.out.1.tr HNN.out)).conv
        have hcm := conv_own HRm.out
        have h77 : w4.cell? ⟨g, bs.length, none⟩ = some (.int .u8 77) := HNN.out.cell HO2.out.2.1 id
        go_wp2_with (first | (go_at_call 13; refine (num_c _ _).mono ?_; rintro e w' ⟨rfl, rfl⟩) | (go_at_call 12; (with_reducible refine (HSb.out _).mono ?_); rintro e w' ⟨rfl, rfl⟩) | (go_at_call 12; (with_reducible refine (HSz.out _).mono ?_); rintro e w' ⟨rfl, rfl⟩))
        go_loopw [10] (fun i wr => ∃ (k : Nat) (xs : List UInt8), k ≤ bs.length ∧ i = .int .i64 k ∧ xs.length = bs.length ∧ wr.ownsRow w.heap.size 5 1 (.slice (some ⟨g, 0, none⟩) bs.length capm) bs.length (xs.map u8v) ∧ Only (fun k => k = g) w4 wr) (fun i _ => bs.length - (intOf i).toNat)
        case atStart => exact ⟨0, bs, by omega, rfl, rfl, HRm.out, Only.refl _ _⟩
        case round =>
          obtain ⟨k, xs, hk, rfl, hxs, hrw, hnw⟩ := hrel
          have HXs := Lib.hid hxs
          have HRW := Lib.hid hrw
          have HNW := Lib.hid hnw
          clear hrw hnw hxs
          by_cases hlt : k < bs.length
          · have hkx : k < xs.length := by have := HXs.out; omega
            have hck : wr.cell? ⟨g, k, none⟩ = some (.int .u8 (xs[k].toNat : Int)) := by rw [row_cell HRW.out (by omega)]; exact get_u8v hkx
            have hfk : wr.frozen? ⟨g, k, none⟩ = false := HRW.out.frozenAt _
            obtain ⟨y, hy⟩ := byte_succ xs[k]
            have HY := Lib.hid hy
            have HSt := Lib.hid (HRW.out.stored k (u8v y))
            clear hy
            go_wp2
            go_roundw
            case rel =>
              refine ⟨k + 1, xs.set k y, by omega, by go_num, by simpa using HXs.out, ?_, HNW.out.setCell (fun _ => rfl) _⟩
              rw [List.map_set, ← HY.out]
              exact HSt.out.1
            case measure => simp [intOf]; omega
          · obtain rfl : k = bs.length := by omega
            have HNr : Hid (New w wr) := (HNm.out.1.tr HNN.out).trans HNW.out (by intro i hi he; have := HNm.out.2; omega)
            go_wp2
            refine wp_region_facts (S := fun W => ByteArg2 W (.slice va bs.length cap) bs ∧ True ∧ Img 0 W by_ gy capy (List.replicate sz 0)) New (FT (M1401 va cap bs)) [7, 6, 0] 140 (by kernel_rfl) (by kernel_rfl) rfl new_re new_tr (Stab.ft ?_) ?_ ?_ ?_ ?_
            · unfold M1401
              repeat (first | exact stab_nil | refine stab_is ?_ | refine ownsB_new ?_)
            · exact ⟨HV.out.new (HNr.out.tr (new_dr _)), trivial, ((HIy.out.only HNW.out (by intro h; have h1 := HIy.out.hb; have h2 := (row_lt HO2.out.1).2; have h3 := HN3.out.size; omega) (by intro h; have h1 := HIy.out.hg; have h2 := (row_lt HO2.out.1).2; have h3 := HN3.out.size; omega)).new (new_dr _)).mono (Nat.zero_le _)⟩
            · intro t ht
              simp only [List.mem_cons, List.not_mem_nil, or_false] at ht
              rcases ht with rfl | rfl | rfl
              · rfl
              · rfl
              · rfl
            · refine ⟨?_, ?_, ?_, ?_, ?_, ?_, ?_, ?_, ?_, ?_, ?_, ?_, ?_, ?_, ?_, ?_, ?_, ?_, trivial⟩
              · exact fs_plain rfl (body_move new_re (t := 7) (.inl rfl) fun _ _ h => h)
              · refine fs_plain rfl (body_call fun aa ww hs hf => ?_)
                have h107 : aa.tmps[107]?.getD undef = (.int .i64 2) := hf 107 (by decide)
                refine ⟨13, #[.int .i64 2], by simp [go_sem, h107], ?_⟩
                exact (num_c 2 ww).mono fun e w'' ⟨he, hn⟩ => by subst hn; exact ⟨_, he, rfl, hs, new_re _⟩
              · refine fs_plain rfl (body_val new_re fun aa ww hs hf => ?_)
                have h108 : aa.tmps[108]?.getD undef = (.int .i64 2) := hf 108 (by decide)
                exact ⟨(.bool false), by simp [go_sem, h108], rfl⟩
              · exact fs_plain rfl (body_move new_re (t := 109) (.inl rfl) fun _ _ h => h)
              · exact step_skip (t := 110) rfl rfl (fun _ _ h => h) (fun _ _ => rfl)
              · exact step_skip (t := 110) rfl rfl (fun _ _ h => h) (fun _ _ => rfl)
              · exact step_skip (t := 110) rfl rfl (fun _ _ h => h) (fun _ _ => rfl)
              · exact step_skip (t := 110) rfl rfl (fun _ _ h => h) (fun _ _ => rfl)
              · exact step_skip (t := 110) rfl rfl (fun _ _ h => h) (fun _ _ => rfl)
              · exact step_skip (t := 110) rfl rfl (fun _ _ h => h) (fun _ _ => rfl)
              · exact step_skip (t := 110) rfl rfl (fun _ _ h => h) (fun _ _ => rfl)
              · exact step_skip_u (t := 117) rfl rfl (fun _ _ h => h) (fun _ _ => rfl)
              · exact step_skip_u (t := 117) rfl rfl (fun _ _ h => h) (fun _ _ => rfl)
              · exact step_skip_u (t := 117) rfl rfl (fun _ _ h => h) (fun _ _ => rfl)
              · exact step_skip_u (t := 117) rfl rfl (fun _ _ h => h) (fun _ _ => rfl)
              · exact step_skip_u (t := 117) rfl rfl (fun _ _ h => h) (fun _ _ => rfl)
              · exact step_skip (t := 110) rfl rfl (fun _ _ h => h) (fun _ _ => rfl)
              · refine fs_plain rfl (body_val new_re fun aa ww hs hf => ?_)
                have h110 : aa.tmps[110]?.getD undef = (.bool false) := hf 110 (by decide)
                have h123 : aa.tmps[123]?.getD undef = undef := hf 123 (by decide)
                exact ⟨(.bool false), by simp [go_sem, h110, h123], rfl⟩
            · intro A W hw
              have hlit := hw.lit [(107, .int .i64 2), (108, .int .i64 2), (109, .bool false), (110, .bool false), (111, undef), (112, undef), (113, undef), (114, undef), (115, undef), (116, undef), (117, undef), (118, undef), (119, undef), (120, undef), (121, undef), (122, undef), (123, undef), (124, .bool false)] (by
                intro p hp
                simp only [List.mem_cons, List.not_mem_nil, or_false] at hp
                rcases hp with rfl | rfl | rfl | rfl | rfl | rfl | rfl | rfl | rfl | rfl | rfl | rfl | rfl | rfl | rfl | rfl | rfl | rfl
                · exact hw.facts 0 107 rfl rfl
                · exact hw.facts 1 108 rfl rfl
                · exact hw.facts 2 109 rfl rfl
                · exact hw.facts 3 110 rfl rfl
                · exact hw.facts 4 111 rfl rfl
                · exact hw.facts 5 112 rfl rfl
                · exact hw.facts 6 113 rfl rfl
                · exact hw.facts 7 114 rfl rfl
                · exact hw.facts 8 115 rfl rfl
                · exact hw.facts 9 116 rfl rfl
                · exact hw.facts 10 117 rfl rfl
                · exact hw.facts 11 118 rfl rfl
                · exact hw.facts 12 119 rfl rfl
                · exact hw.facts 13 120 rfl rfl
                · exact hw.facts 14 121 rfl rfl
                · exact hw.facts 15 122 rfl rfl
                · exact hw.facts 16 123 rfl rfl
                · exact hw.facts 17 124 rfl rfl) (by kernel_rfl)
              have HWs := Lib.hid hw.s
              have HWe := Lib.hid hw.ext
              clear hw
              subst hlit
              simp only [List.foldl_cons, List.foldl_nil, List.setIfInBounds_toArray, List.set_cons_succ, List.set_cons_zero]
              go_wp2
              refine wp_region_facts (S := fun W => ByteArg2 W (.slice va bs.length cap) bs ∧ True ∧ Img 0 W by_ gy capy (List.replicate sz 0)) New (FT (M1601 by_ sz)) [9, 8, 1] 140 (by kernel_rfl) (by kernel_rfl) rfl new_re new_tr (Stab.ft ?_) ?_ ?_ ?_ ?_
              · unfold M1601
                repeat (first | exact stab_nil | refine stab_is ?_ | refine ownsB_new ?_)
              · exact ⟨HWs.out.1.new (new_dr _), trivial, HWs.out.2.2.new (new_dr _)⟩
              · intro t ht
                simp only [List.mem_cons, List.not_mem_nil, or_false] at ht
                rcases ht with rfl | rfl | rfl
                · rfl
                · rfl
                · rfl
              · refine ⟨?_, ?_, ?_, ?_, ?_, ?_, ?_, ?_, ?_, ?_, ?_, ?_, ?_, ?_, ?_, ?_, trivial⟩
                · exact fs_plain rfl (body_move new_re (t := 9) (.inl rfl) fun _ _ h => h)
                · refine fs_plain rfl (body_call fun aa ww hs hf => ?_)
                  have h125 : aa.tmps[125]?.getD undef = (.int .i64 0) := hf 125 (by decide)
                  refine ⟨13, #[.int .i64 0], by simp [go_sem, h125], ?_⟩
                  exact (num_c 0 ww).mono fun e w'' ⟨he, hn⟩ => by subst hn; exact ⟨_, he, rfl, hs, new_re _⟩
                · refine fs_plain rfl (body_val new_re fun aa ww hs hf => ?_)
                  have h126 : aa.tmps[126]?.getD undef = (.int .i64 0) := hf 126 (by decide)
                  exact ⟨(.bool false), by simp [go_sem, h126], rfl⟩
                · exact fs_plain rfl (body_move new_re (t := 127) (.inl rfl) fun _ _ h => h)
                · exact fs_guard 128 rfl rfl (fun _ _ h => h) (body_move new_re (t := 8) (.inl rfl) fun _ _ h => h)
                · refine fs_guard 128 rfl rfl (fun _ _ h => h) (body_call fun aa ww hs hf => ?_)
                  have h129 : aa.tmps[129]?.getD undef = (.pointer (some ⟨by_, 0, none⟩)) := hf 129 (by decide)
                  refine ⟨19, #[.pointer (some ⟨by_, 0, none⟩)], by simp [go_sem, h129], ?_⟩
                  exact (bytes_some hs.2.2).mono fun e w'' ⟨v, he, ho, hn⟩ => by obtain ⟨g, cap, rfl⟩ := row_some ho (by have := hs.2.2.pos; omega); exact ⟨_, he, ⟨g, cap, rfl, row_mono ho (Nat.zero_le _)⟩, ⟨hs.1.new hn, trivial, hs.2.2.new hn⟩, hn⟩
                · refine fs_guard 128 rfl rfl (fun _ _ h => h) (body_val new_re fun aa ww hs hf => ?_)
                  have h130 : ownsB (List.replicate sz 0) (aa.tmps[130]?.getD undef) ww := hf 130 (by decide)
                  obtain ⟨gg, cc, hg1, hg2⟩ := h130
                  rw [hg1] at hg2
                  have hc := conv_own hg2
                  simp only [List.length_replicate] at hc
                  exact ⟨(.string (str (List.replicate sz 0))), by simp [go_sem, hg1, hc], rfl⟩
                · exact fs_guard 128 rfl rfl (fun _ _ h => h) (body_move new_re (t := 1) (.inl rfl) fun _ _ h => h)
                · exact fs_guard 128 rfl rfl (fun _ _ h => h) (body_made HE.out (by have := okSize_range HZ.out; omega) (by have := okSize_range HZ.out; omega) rfl (fun _ _ h => h) (fun w w2 hs hn => ⟨hs.1.new hn, trivial, hs.2.2.new hn⟩) (fun _ _ h => h))
                · refine fs_guard 128 rfl rfl (fun _ _ h => h) (body_val new_re fun aa ww hs hf => ?_)
                  have h133 : ownsB (List.replicate sz 0) (aa.tmps[133]?.getD undef) ww := hf 133 (by decide)
                  obtain ⟨gg, cc, hg1, hg2⟩ := h133
                  rw [hg1] at hg2
                  have hc := conv_own hg2
                  simp only [List.length_replicate] at hc
                  exact ⟨(.string (str (List.replicate sz 0))), by simp [go_sem, hg1, hc], rfl⟩
                · refine fs_guard 128 rfl rfl (fun _ _ h => h) (body_val new_re fun aa ww hs hf => ?_)
                  have h131 : aa.tmps[131]?.getD undef = (.string (str (List.replicate sz 0))) := hf 131 (by decide)
                  have h134 : aa.tmps[134]?.getD undef = (.string (str (List.replicate sz 0))) := hf 134 (by decide)
                  exact ⟨(.bool true), by simp [go_sem, h131, h134, hs0], rfl⟩
                · refine fs_plain rfl (body_val new_re fun aa ww hs hf => ?_)
                  have h128 : aa.tmps[128]?.getD undef = (.bool false) := hf 128 (by decide)
                  have h135 : aa.tmps[135]?.getD undef = (.bool true) := hf 135 (by decide)
                  exact ⟨(.bool true), by simp [go_sem, h128, h135], rfl⟩
                · exact fs_plain rfl (body_move new_re (t := 136) (.inl rfl) fun _ _ h => h)
                · refine fs_guard 137 rfl rfl (fun _ _ h => h) (body_call fun aa ww hs hf => ?_)
                  refine ⟨14, #[], by simp [go_sem], ?_⟩
                  exact (works_c ww).mono fun e w'' ⟨he, hn⟩ => ⟨_, he, rfl, ⟨hs.1.new hn, trivial, hs.2.2.new hn⟩, hn⟩
                · exact fs_plain rfl (body_pick new_re (c := 137) (x := 138) rfl (fun _ _ h => h) fun _ _ h => h)
                · exact fs_plain rfl (body_move new_re (t := 139) (.inr rfl) fun _ _ h => h)
              · intro a w hw
                go_wp2
                refine ⟨hw.defers, _, results_tmp rfl _ _ _, ?_⟩
                rw [show a.tmps.getD 4 undef = .bool true from hw.facts 15 4 rfl rfl]
                exact ⟨rfl, ((((HNr.out.tr (new_dr _)).tr HWe.out).tr (new_dr _)).tr hw.ext).nb⟩
      · have HZ : Hid (okSize size = false) := by show _ = _; simpa using hz
        clear hb hz
        have HSb : Hid (∀ w, Calls Try.prog 12 #[.int .i64 bs.length] w fun e w' => e = .returned (.bool false) ∧ w = w') := by intro w; have := refsize_c bs.length w; rwa [HB.out] at this
        have HSz : Hid (∀ w, Calls Try.prog 12 #[.int .i64 size] w fun e w' => e = .returned (.bool false) ∧ w = w') := by intro w; have := refsize_c size w; rwa [HZ.out] at this
        refine (of_no _ _ _ _ rfl _ HB.out).mono ?_
        rintro e w3 ⟨rfl, rfl⟩
        have HN3 : Hid (New w2 w2) := new_re w2
        go_wp2_with fail
        refine (new_no size _ HZ.out).mono ?_
        rintro e w4 ⟨rfl, rfl⟩
        have HN4 : Hid (New w2 w2) := new_re w2
        have HNN := Lib.hid (HN3.out.tr HN4.out)
        have HRm := Lib.hid (HNN.out.row HO2.out.1 (by simp))
        have hcb := (HV.out.new (HNm.out.1.tr HNN.out)).conv
        have hcm := conv_own HRm.out
        have h77 : w2.cell? ⟨g, bs.length, none⟩ = some (.int .u8 77) := HNN.out.cell HO2.out.2.1 id
        go_wp2_with (first | (go_at_call 13; refine (num_c _ _).mono ?_; rintro e w' ⟨rfl, rfl⟩) | (go_at_call 12; (with_reducible refine (HSb.out _).mono ?_); rintro e w' ⟨rfl, rfl⟩) | (go_at_call 12; (with_reducible refine (HSz.out _).mono ?_); rintro e w' ⟨rfl, rfl⟩))
        go_loopw [10] (fun i wr => ∃ (k : Nat) (xs : List UInt8), k ≤ bs.length ∧ i = .int .i64 k ∧ xs.length = bs.length ∧ wr.ownsRow w.heap.size 5 1 (.slice (some ⟨g, 0, none⟩) bs.length capm) bs.length (xs.map u8v) ∧ Only (fun k => k = g) w2 wr) (fun i _ => bs.length - (intOf i).toNat)
        case atStart => exact ⟨0, bs, by omega, rfl, rfl, HRm.out, Only.refl _ _⟩
        case round =>
          obtain ⟨k, xs, hk, rfl, hxs, hrw, hnw⟩ := hrel
          have HXs := Lib.hid hxs
          have HRW := Lib.hid hrw
          have HNW := Lib.hid hnw
          clear hrw hnw hxs
          by_cases hlt : k < bs.length
          · have hkx : k < xs.length := by have := HXs.out; omega
            have hck : wr.cell? ⟨g, k, none⟩ = some (.int .u8 (xs[k].toNat : Int)) := by rw [row_cell HRW.out (by omega)]; exact get_u8v hkx
            have hfk : wr.frozen? ⟨g, k, none⟩ = false := HRW.out.frozenAt _
            obtain ⟨y, hy⟩ := byte_succ xs[k]
            have HY := Lib.hid hy
            have HSt := Lib.hid (HRW.out.stored k (u8v y))
            clear hy
            go_wp2
            go_roundw
            case rel =>
              refine ⟨k + 1, xs.set k y, by omega, by go_num, by simpa using HXs.out, ?_, HNW.out.setCell (fun _ => rfl) _⟩
              rw [List.map_set, ← HY.out]
              exact HSt.out.1
            case measure => simp [intOf]; omega
          · obtain rfl : k = bs.length := by omega
            have HNr : Hid (New w wr) := (HNm.out.1.tr HNN.out).trans HNW.out (by intro i hi he; have := HNm.out.2; omega)
            go_wp2
            refine wp_region_facts (S := fun W => ByteArg2 W (.slice va bs.length cap) bs ∧ True ∧ True) New (FT (M1400 va cap bs)) [7, 6, 0] 140 (by kernel_rfl) (by kernel_rfl) rfl new_re new_tr (Stab.ft ?_) ?_ ?_ ?_ ?_
            · unfold M1400
              repeat (first | exact stab_nil | refine stab_is ?_ | refine ownsB_new ?_)
            · exact ⟨HV.out.new (HNr.out.tr (new_dr _)), trivial, trivial⟩
            · intro t ht
              simp only [List.mem_cons, List.not_mem_nil, or_false] at ht
              rcases ht with rfl | rfl | rfl
              · rfl
              · rfl
              · rfl
            · refine ⟨?_, ?_, ?_, ?_, ?_, ?_, ?_, ?_, ?_, ?_, ?_, ?_, ?_, ?_, ?_, ?_, ?_, ?_, trivial⟩
              · exact fs_plain rfl (body_move new_re (t := 7) (.inl rfl) fun _ _ h => h)
              · refine fs_plain rfl (body_call fun aa ww hs hf => ?_)
                have h107 : aa.tmps[107]?.getD undef = (.int .i64 2) := hf 107 (by decide)
                refine ⟨13, #[.int .i64 2], by simp [go_sem, h107], ?_⟩
                exact (num_c 2 ww).mono fun e w'' ⟨he, hn⟩ => by subst hn; exact ⟨_, he, rfl, hs, new_re _⟩
              · refine fs_plain rfl (body_val new_re fun aa ww hs hf => ?_)
                have h108 : aa.tmps[108]?.getD undef = (.int .i64 2) := hf 108 (by decide)
                exact ⟨(.bool false), by simp [go_sem, h108], rfl⟩
              · exact fs_plain rfl (body_move new_re (t := 109) (.inl rfl) fun _ _ h => h)
              · exact step_skip (t := 110) rfl rfl (fun _ _ h => h) (fun _ _ => rfl)
              · exact step_skip (t := 110) rfl rfl (fun _ _ h => h) (fun _ _ => rfl)
              · exact step_skip (t := 110) rfl rfl (fun _ _ h => h) (fun _ _ => rfl)
              · exact step_skip (t := 110) rfl rfl (fun _ _ h => h) (fun _ _ => rfl)
              · exact step_skip (t := 110) rfl rfl (fun _ _ h => h) (fun _ _ => rfl)
              · exact step_skip (t := 110) rfl rfl (fun _ _ h => h) (fun _ _ => rfl)
              · exact step_skip (t := 110) rfl rfl (fun _ _ h => h) (fun _ _ => rfl)
              · exact step_skip_u (t := 117) rfl rfl (fun _ _ h => h) (fun _ _ => rfl)
              · exact step_skip_u (t := 117) rfl rfl (fun _ _ h => h) (fun _ _ => rfl)
              · exact step_skip_u (t := 117) rfl rfl (fun _ _ h => h) (fun _ _ => rfl)
              · exact step_skip_u (t := 117) rfl rfl (fun _ _ h => h) (fun _ _ => rfl)
              · exact step_skip_u (t := 117) rfl rfl (fun _ _ h => h) (fun _ _ => rfl)
              · exact step_skip (t := 110) rfl rfl (fun _ _ h => h) (fun _ _ => rfl)
              · refine fs_plain rfl (body_val new_re fun aa ww hs hf => ?_)
                have h110 : aa.tmps[110]?.getD undef = (.bool false) := hf 110 (by decide)
                have h123 : aa.tmps[123]?.getD undef = undef := hf 123 (by decide)
                exact ⟨(.bool false), by simp [go_sem, h110, h123], rfl⟩
            · intro A W hw
              have hlit := hw.lit [(107, .int .i64 2), (108, .int .i64 2), (109, .bool false), (110, .bool false), (111, undef), (112, undef), (113, undef), (114, undef), (115, undef), (116, undef), (117, undef), (118, undef), (119, undef), (120, undef), (121, undef), (122, undef), (123, undef), (124, .bool false)] (by
                intro p hp
                simp only [List.mem_cons, List.not_mem_nil, or_false] at hp
                rcases hp with rfl | rfl | rfl | rfl | rfl | rfl | rfl | rfl | rfl | rfl | rfl | rfl | rfl | rfl | rfl | rfl | rfl | rfl
                · exact hw.facts 0 107 rfl rfl
                · exact hw.facts 1 108 rfl rfl
                · exact hw.facts 2 109 rfl rfl
                · exact hw.facts 3 110 rfl rfl
                · exact hw.facts 4 111 rfl rfl
                · exact hw.facts 5 112 rfl rfl
                · exact hw.facts 6 113 rfl rfl
                · exact hw.facts 7 114 rfl rfl
                · exact hw.facts 8 115 rfl rfl
                · exact hw.facts 9 116 rfl rfl
                · exact hw.facts 10 117 rfl rfl
                · exact hw.facts 11 118 rfl rfl
                · exact hw.facts 12 119 rfl rfl
                · exact hw.facts 13 120 rfl rfl
                · exact hw.facts 14 121 rfl rfl
                · exact hw.facts 15 122 rfl rfl
                · exact hw.facts 16 123 rfl rfl
                · exact hw.facts 17 124 rfl rfl) (by kernel_rfl)
              have HWs := Lib.hid hw.s
              have HWe := Lib.hid hw.ext
              clear hw
              subst hlit
              simp only [List.foldl_cons, List.foldl_nil, List.setIfInBounds_toArray, List.set_cons_succ, List.set_cons_zero]
              go_wp2
              refine wp_region_facts (S := fun W => ByteArg2 W (.slice va bs.length cap) bs ∧ True ∧ True) New (FT (M1600 size)) [9, 8, 1] 140 (by kernel_rfl) (by kernel_rfl) rfl new_re new_tr (Stab.ft ?_) ?_ ?_ ?_ ?_
              · unfold M1600
                repeat (first | exact stab_nil | refine stab_is ?_ | refine ownsB_new ?_)
              · exact ⟨HWs.out.1.new (new_dr _), trivial, trivial⟩
              · intro t ht
                simp only [List.mem_cons, List.not_mem_nil, or_false] at ht
                rcases ht with rfl | rfl | rfl
                · rfl
                · rfl
                · rfl
              · refine ⟨?_, ?_, ?_, ?_, ?_, ?_, ?_, ?_, ?_, ?_, ?_, ?_, ?_, ?_, ?_, ?_, trivial⟩
                · exact fs_plain rfl (body_move new_re (t := 9) (.inl rfl) fun _ _ h => h)
                · refine fs_plain rfl (body_call fun aa ww hs hf => ?_)
                  have h125 : aa.tmps[125]?.getD undef = (.int .i64 2) := hf 125 (by decide)
                  refine ⟨13, #[.int .i64 2], by simp [go_sem, h125], ?_⟩
                  exact (num_c 2 ww).mono fun e w'' ⟨he, hn⟩ => by subst hn; exact ⟨_, he, rfl, hs, new_re _⟩
                · refine fs_plain rfl (body_val new_re fun aa ww hs hf => ?_)
                  have h126 : aa.tmps[126]?.getD undef = (.int .i64 2) := hf 126 (by decide)
                  exact ⟨(.bool true), by simp [go_sem, h126], rfl⟩
                · exact fs_plain rfl (body_move new_re (t := 127) (.inl rfl) fun _ _ h => h)
                · exact step_skip (t := 128) rfl rfl (fun _ _ h => h) (fun _ _ => rfl)
                · exact step_skip (t := 128) rfl rfl (fun _ _ h => h) (fun _ _ => rfl)
                · exact step_skip (t := 128) rfl rfl (fun _ _ h => h) (fun _ _ => rfl)
                · exact step_skip (t := 128) rfl rfl (fun _ _ h => h) (fun _ _ => rfl)
                · exact step_skip (t := 128) rfl rfl (fun _ _ h => h) (fun _ _ => rfl)
                · exact step_skip (t := 128) rfl rfl (fun _ _ h => h) (fun _ _ => rfl)
                · exact step_skip (t := 128) rfl rfl (fun _ _ h => h) (fun _ _ => rfl)
                · refine fs_plain rfl (body_val new_re fun aa ww hs hf => ?_)
                  have h128 : aa.tmps[128]?.getD undef = (.bool true) := hf 128 (by decide)
                  have h135 : aa.tmps[135]?.getD undef = undef := hf 135 (by decide)
                  exact ⟨(.bool true), by simp [go_sem, h128, h135], rfl⟩
                · exact fs_plain rfl (body_move new_re (t := 136) (.inl rfl) fun _ _ h => h)
                · refine fs_guard 137 rfl rfl (fun _ _ h => h) (body_call fun aa ww hs hf => ?_)
                  refine ⟨14, #[], by simp [go_sem], ?_⟩
                  exact (works_c ww).mono fun e w'' ⟨he, hn⟩ => ⟨_, he, rfl, ⟨hs.1.new hn, trivial, trivial⟩, hn⟩
                · exact fs_plain rfl (body_pick new_re (c := 137) (x := 138) rfl (fun _ _ h => h) fun _ _ h => h)
                · exact fs_plain rfl (body_move new_re (t := 139) (.inr rfl) fun _ _ h => h)
              · intro a w hw
                go_wp2
                refine ⟨hw.defers, _, results_tmp rfl _ _ _, ?_⟩
                rw [show a.tmps.getD 4 undef = .bool true from hw.facts 15 4 rfl rfl]
                exact ⟨rfl, ((((HNr.out.tr (new_dr _)).tr HWe.out).tr (new_dr _)).tr hw.ext).nb⟩
end Go.Proofs.Ytglepciddhbmbaa
