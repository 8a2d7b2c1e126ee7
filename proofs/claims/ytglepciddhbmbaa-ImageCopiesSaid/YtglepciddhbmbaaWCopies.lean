/-
  The walk of ImageCopies.
-/
import Derived.Test.YtglepciddhbmbaaImgL
import Derived.Test.YtglepciddhbmbaaWMakes
import Derived.Test.YtglepciddhbmbaaWSets
namespace Go.Proofs.Ytglepciddhbmbaa
open Go.RowKit

def M201 (b b3 bo g B a : Nat) (n : Int) (x : Nat) (ws ys : List UInt8) : List (Tmp × (Value → World → Prop)) :=
  [(11, is (.bool true)), (12, is (.int .i64 0)), (14, is (.string (str ys))), (7, is (.slice (some ⟨g, 0, none⟩) ws.length ws.length)), (10, is (.pointer (some ⟨b3, 0, none⟩))), (8, is (.pointer (some ⟨b, 0, none⟩))), (18, is (.int .i64 1)), (20, is (.int .i64 1)), (16, is (.pointer none)), (5, is (.pointer (some ⟨B, 0, none⟩))), (21, is (.pointer (some ⟨bo, 0, none⟩))), (87, is (.bool true)), (88, is (.bool true)), (89, is (.int .i64 0)), (90, is (.int .i64 0)), (91, is (.bool true)), (92, is (.bool true)), (93, is undef), (94, is undef), (95, is undef), (96, is undef), (97, is (.bool true)), (98, is (.bool true)), (99, is (.bool true)), (100, is (.pointer (some ⟨b3, 0, none⟩))), (101, ownsB ws), (102, is (.string (str ws))), (103, is (.slice (some ⟨g, 0, none⟩) ws.length ws.length)), (104, is (.string (str ws))), (105, is (.bool true)), (106, is (.bool true)), (107, is (.bool true)), (108, is (.pointer (some ⟨b, 0, none⟩))), (109, ownsB ys), (110, is (.string (str ys))), (111, is (.string (str ys))), (112, is (.bool true)), (113, is (.bool true)), (114, is (.bool true)), (115, is (.pointer (some ⟨b, 0, none⟩))), (116, is (.pointer (some ⟨b3, 0, none⟩))), (117, is (.bool (decide (ys = ws)))), (118, is (.string (str ys))), (119, is (.slice (some ⟨g, 0, none⟩) ws.length ws.length)), (120, is (.string (str ws))), (121, is (.bool (decide (ys = ws)))), (122, is (.bool true)), (123, is (.bool true)), (124, is (.bool true)), (125, is (.int .i64 1)), (126, is (.int .i64 1)), (127, is (.bool true)), (128, is (.bool true)), (129, is (.bool true)), (130, is (.int .i64 1)), (131, is (.int .i64 1)), (132, is (.bool true)), (133, is (.bool true)), (134, is (.bool true)), (135, is (.pointer none)), (136, is (.pointer (some ⟨B, 0, none⟩))), (137, is (.int .u32 a)), (138, is (.pointer (some ⟨B, 1, none⟩))), (139, is (.int .i64 n)), (140, is (.pointer (some ⟨B, 2, none⟩))), (141, is (.int .u32 x)), (142, is (.int .i64 1)), (143, is (.int .i64 1)), (144, is (.bool true)), (145, is (.bool true)), (146, is (.bool true)), (147, is (.pointer none)), (148, is (.agg #[.int .u8 0, .int .u8 0, .int .u8 0, .int .u8 0, .int .u8 0, .int .u8 0, .int .u8 0, .int .u8 0, .int .u8 0, .int .u8 0, .int .u8 0, .int .u8 0, .int .u8 0, .int .u8 0, .int .u8 0, .int .u8 0])), (149, is (.int .i64 1)), (150, is (.int .i64 1)), (151, is (.bool true)), (152, is (.bool true)), (153, is (.bool true)), (154, is (.pointer none)), (155, is (.int .i64 0)), (156, is (.bool true)), (157, is (.bool true)), (158, is (.bool true)), (159, is (.pointer none)), (160, is (.slice none 0 0)), (161, is (.int .i64 0)), (162, is (.bool true)), (163, is (.bool true)), (164, is (.bool true)), (165, is (.pointer none)), (166, is (.pointer none)), (167, is (.bool true)), (168, is (.bool true)), (169, is (.bool true)), (170, is (.pointer none)), (171, is (.bool true)), (172, is (.bool true)), (173, is (.bool true)), (174, is (.pointer none)), (175, is (.pointer (some ⟨bo, 0, none⟩))), (176, is (.bool false)), (177, is (.bool true)), (178, is (.bool true)), (179, is (.bool true)), (180, is (.pointer (some ⟨bo, 0, none⟩))), (181, is (.pointer none)), (182, is (.bool false)), (183, is (.bool true)), (184, is (.bool true)), (185, is (.bool true)), (186, is (.bool true)), (187, is (.bool true)), (6, is (.bool true))]

def M200 (b b3 bo g B a : Nat) (n : Int) (x : Nat) (ws ys : List UInt8) (E : Int) : List (Tmp × (Value → World → Prop)) :=
  [(11, is (.bool true)), (12, is (.int .i64 E)), (14, is (.string (str ys))), (7, is (.slice (some ⟨g, 0, none⟩) ws.length ws.length)), (10, is (.pointer (some ⟨b3, 0, none⟩))), (8, is (.pointer (some ⟨b, 0, none⟩))), (18, is (.int .i64 1)), (20, is (.int .i64 1)), (16, is (.pointer none)), (5, is (.pointer (some ⟨B, 0, none⟩))), (21, is (.pointer (some ⟨bo, 0, none⟩))), (87, is (.bool true)), (88, is (.bool true)), (89, is (.int .i64 E)), (90, is (.int .i64 E)), (91, is (.bool false)), (92, is (.bool false)), (93, is (.string (str ys))), (94, is (.slice (some ⟨g, 0, none⟩) ws.length ws.length)), (95, is (.string (str ws))), (96, is (.bool true)), (97, is (.bool true)), (98, is (.bool true)), (99, is (.bool true)), (100, is (.pointer (some ⟨b3, 0, none⟩))), (101, ownsB ws), (102, is (.string (str ws))), (103, is (.slice (some ⟨g, 0, none⟩) ws.length ws.length)), (104, is (.string (str ws))), (105, is (.bool true)), (106, is (.bool true)), (107, is (.bool true)), (108, is (.pointer (some ⟨b, 0, none⟩))), (109, ownsB ys), (110, is (.string (str ys))), (111, is (.string (str ys))), (112, is (.bool true)), (113, is (.bool true)), (114, is (.bool true)), (115, is (.pointer (some ⟨b, 0, none⟩))), (116, is (.pointer (some ⟨b3, 0, none⟩))), (117, is (.bool (decide (ys = ws)))), (118, is (.string (str ys))), (119, is (.slice (some ⟨g, 0, none⟩) ws.length ws.length)), (120, is (.string (str ws))), (121, is (.bool (decide (ys = ws)))), (122, is (.bool true)), (123, is (.bool true)), (124, is (.bool true)), (125, is (.int .i64 1)), (126, is (.int .i64 1)), (127, is (.bool true)), (128, is (.bool true)), (129, is (.bool true)), (130, is (.int .i64 1)), (131, is (.int .i64 1)), (132, is (.bool true)), (133, is (.bool true)), (134, is (.bool true)), (135, is (.pointer none)), (136, is (.pointer (some ⟨B, 0, none⟩))), (137, is (.int .u32 a)), (138, is (.pointer (some ⟨B, 1, none⟩))), (139, is (.int .i64 n)), (140, is (.pointer (some ⟨B, 2, none⟩))), (141, is (.int .u32 x)), (142, is (.int .i64 1)), (143, is (.int .i64 1)), (144, is (.bool true)), (145, is (.bool true)), (146, is (.bool true)), (147, is (.pointer none)), (148, is (.agg #[.int .u8 0, .int .u8 0, .int .u8 0, .int .u8 0, .int .u8 0, .int .u8 0, .int .u8 0, .int .u8 0, .int .u8 0, .int .u8 0, .int .u8 0, .int .u8 0, .int .u8 0, .int .u8 0, .int .u8 0, .int .u8 0])), (149, is (.int .i64 1)), (150, is (.int .i64 1)), (151, is (.bool true)), (152, is (.bool true)), (153, is (.bool true)), (154, is (.pointer none)), (155, is (.int .i64 0)), (156, is (.bool true)), (157, is (.bool true)), (158, is (.bool true)), (159, is (.pointer none)), (160, is (.slice none 0 0)), (161, is (.int .i64 0)), (162, is (.bool true)), (163, is (.bool true)), (164, is (.bool true)), (165, is (.pointer none)), (166, is (.pointer none)), (167, is (.bool true)), (168, is (.bool true)), (169, is (.bool true)), (170, is (.pointer none)), (171, is (.bool true)), (172, is (.bool true)), (173, is (.bool true)), (174, is (.pointer none)), (175, is (.pointer (some ⟨bo, 0, none⟩))), (176, is (.bool false)), (177, is (.bool true)), (178, is (.bool true)), (179, is (.bool true)), (180, is (.pointer (some ⟨bo, 0, none⟩))), (181, is (.pointer none)), (182, is (.bool false)), (183, is (.bool true)), (184, is (.bool true)), (185, is (.bool true)), (186, is (.bool true)), (187, is (.bool true)), (6, is (.bool true))]

set_option maxRecDepth 100000 in
set_option maxHeartbeats 8000000 in
theorem walk_ImageCopies (w : World) (v : Value) (hv : ∃ bs, ByteArg w v bs) (wide : Int) (_h1 : (Lit.int .i64 wide).wf = true) (v2 : Value) (h2 : AccArg v2) :
    Calls Try.prog 10 #[v, .int .i64 wide, v2] w fun e w' => e = .returned (.bool true) ∧ Below w.heap.size w w' := by
  obtain ⟨bs, hv⟩ := hv
  obtain ⟨a, n, x, ha, hx, rfl⟩ := h2
  have hN0 : New w (w.alloc (.cells #[.int .u32 a, .int .i64 n, .int .u32 x] 40)) := (Only.refl _ w).alloc _
  have hv' : ByteArg (w.alloc (.cells #[.int .u32 a, .int .i64 n, .int .u32 x] 40)) v bs := by
    obtain ⟨va, cap, h1, h2, h3⟩ := hv
    refine ⟨va, cap, h1, h2, fun h => ?_⟩
    obtain ⟨b, o, h4, h5⟩ := h3 h
    exact ⟨b, o, h4, fun j u hj => hN0.cell (h5 j u hj) id⟩
  have HS := Lib.hid (sized_c v bs wide _ hv')
  have HN0 := Lib.hid hN0
  obtain ⟨va, cap, rfl, hm, _⟩ := hv
  unfold maxLen at hm
  have HA := Lib.hid (Go.heap_alloc_new w (.cells #[.int .u32 a, .int .i64 n, .int .u32 x] 40))
  clear hv' hN0
  by_cases hlen : 10000 < bs.length
  · go_enter Try.func10, Try.ntmps10
    go_wp2_with (go_at_call 14; refine (works_c _).mono ?_; rintro e w2 ⟨rfl, hn⟩; have HN2 := Lib.hid hn; clear hn)
    go_ret
    exact ⟨rfl, (HN0.out.tr HN2.out).nb⟩
  · go_enter Try.func10, Try.ntmps10
    go_wp2_with (go_at_call 16; refine HS.out.mono ?_; rintro e w1 ⟨g, ws, rfl, hok, hrow, hn⟩; have HOk := Lib.hid hok; have HR1 := Lib.hid hrow; have HN1 := Lib.hid hn; clear hok hrow hn)
    refine (of_yes g 0 _ _ ws _ rfl (own_bytes HR1.out) HOk.out).mono ?_
    rintro e w2 ⟨b, g2, cap2, rfl, hi, hn⟩
    have HI := Lib.hid hi
    have HN2 := Lib.hid hn
    clear hi hn
    go_wp2_with (go_at_call 13; refine (num_c _ _).mono ?_; rintro e w9 ⟨rfl, rfl⟩)
    refine (copy_some HI.out).mono ?_
    rintro e w3 ⟨b3, g3, cap3, rfl, hi, hn⟩
    have HI3 := Lib.hid hi
    have HN3 := Lib.hid hn
    clear hi hn
    have hsame := same_some ((HI.out.new HN3.out).mono (Nat.zero_le _)) (HI3.out.mono (Nat.zero_le _))
    rw [decide_eq_true rfl] at hsame
    have HSame := Lib.hid hsame
    clear hsame
    have hr := okSize_range HOk.out
    obtain ⟨hr1, hr2⟩ := hr
    go_wp2_with fail
    refine HSame.out.mono ?_
    rintro e w4 ⟨rfl, hn⟩
    have HI4 := Lib.hid ((HI.out.new HN3.out).new hn)
    have HI4o := Lib.hid (HI3.out.new hn)
    have HN4 := Lib.hid hn
    have hA4 := hn.heap (HN3.out.heap (HN2.out.heap (HN1.out.heap HA.out id) id) id) id
    have c0 : w4.cell? ⟨w.heap.size, 0, none⟩ = some (.int .u32 a) := by rw [head_cell hA4]; rfl
    have c1 : w4.cell? ⟨w.heap.size, 1, none⟩ = some (.int .i64 n) := by rw [head_cell hA4]; rfl
    have c2 : w4.cell? ⟨w.heap.size, 2, none⟩ = some (.int .u32 x) := by rw [head_cell hA4]; rfl
    have HA4 := Lib.hid hA4
    clear hA4 hn HSame
    go_wp2_with fail
    refine (write_any HI4.out a ha n x).mono ?_
    rintro e w5 ⟨ys, rfl, hi, hn, hor, hlen2⟩
    have HOr := Lib.hid hor
    have HLen := Lib.hid hlen2
    have HI5 := Lib.hid hi
    have HN5 := Lib.hid hn
    have HI5o := Lib.hid (HI4o.out.only hn (fun h => by have h1 := HI.out.lt; have h2 := HI3.out.hb; have h3 : b3 = g2 := h; omega) (fun h => by have h1 := HI.out.lt; have h2 := HI3.out.hg; have h3 : g3 = g2 := h; omega))
    have HA5 := Lib.hid (hn.heap HA4.out (by have := HI.out.hg; have := HN1.out.lt (show w.heap.size < _ from (Array.getElem?_eq_some_iff.1 HA.out).1); omega))
    clear hi hn hor hlen2 c0 c1 c2
    go_wp2_with fail
    refine (bytes_some HI5.out).mono ?_
    rintro e w6 ⟨vb, rfl, ho, hn⟩
    obtain ⟨g6, cap6, rfl⟩ := row_some ho (by have := HLen.out; omega)
    have hc6 := conv_own ho
    have HR6 := Lib.hid ho
    have HN6 := Lib.hid hn
    clear ho hn
    go_wp2_with fail
    have hys : 16 ≤ ys.length ∧ ys.length ≤ 4096 := by have := HLen.out; omega
    obtain ⟨hys1, hys2⟩ := hys
    go_loopw [15] (fun i wr => ∃ (k : Nat) (xs : List UInt8), k ≤ ys.length ∧ i = .int .i64 k ∧ xs.length = ys.length ∧ wr.ownsRow 0 5 1 (.slice (some ⟨g6, 0, none⟩) ys.length cap6) ys.length (xs.map u8v) ∧ Only (fun k => k = g6) w6 wr) (fun i _ => ys.length - (intOf i).toNat)
    case atStart => exact ⟨0, ys, by omega, rfl, rfl, row_mono HR6.out (Nat.zero_le _), Only.refl _ _⟩
    case round =>
      obtain ⟨k, xs, hk, rfl, hxs, hrw, hnw⟩ := hrel
      have HXs := Lib.hid hxs
      have HRW := Lib.hid hrw
      have HNW := Lib.hid hnw
      clear hrw hnw hxs
      by_cases hlt : k < ys.length
      · have hkx : k < xs.length := by have := HXs.out; omega
        have hck : wr.cell? ⟨g6, k, none⟩ = some (.int .u8 (xs[k].toNat : Int)) := by rw [row_cell HRW.out (by omega)]; exact get_u8v hkx
        have hfk : wr.frozen? ⟨g6, k, none⟩ = false := HRW.out.frozenAt _
        obtain ⟨y, hy⟩ := byte_succ xs[k]
        have HY := Lib.hid hy
        have HSt := Lib.hid (HRW.out.stored k (u8v y))
        clear hy
        go_wp2
        go_roundw
        case rel =>
          refine ⟨k + 1, xs.set k y, by omega, by go_num, by simpa using HXs.out, ?_, HNW.out.setCell (fun _ => rfl) _⟩
          rw [List.map_set, ← HY.out]
          exact HSt.out.1
        case measure => simp [intOf]; omega
      · obtain rfl : k = ys.length := by omega
        have hlA := (Array.getElem?_eq_some_iff.1 HA5.out).1
        have hA7 := HNW.out.heap (HN6.out.heap HA5.out id) (by have h1 := (row_lt HR6.out).1; omega)
        have c0 : wr.cell? ⟨w.heap.size, 0, none⟩ = some (.int .u32 a) := by rw [head_cell hA7]; rfl
        have c1 : wr.cell? ⟨w.heap.size, 1, none⟩ = some (.int .i64 n) := by rw [head_cell hA7]; rfl
        have HA7 := Lib.hid hA7
        clear hA7
        go_wp2_with fail
        refine (read_nil a n _).mono ?_
        rintro e w7 ⟨rfl, hn⟩
        have HN7 := Lib.hid hn
        clear hn c0 c1
        have hnil := line_nil 0 w7
        obtain ⟨cs0, hz0⟩ : ∃ cs0, LineOf zline cs0 := ⟨_, lineOf zline rfl⟩
        unfold lineV at hnil
        rw [hz0.cells] at hnil
        have HNil := Lib.hid hnil
        have HZc := Lib.hid hz0
        clear hnil hz0
        go_wp2_with (first | (go_at_call 25; refine HNil.out.mono ?_; rintro e w8 ⟨rfl, hn⟩; have HN8 := Lib.hid hn; clear hn; have HS8 := Lib.hid (stored_line (w := w8) (cs := cs0) (z := #[.int .u8 0, .int .u8 0, .int .u8 0, .int .u8 0, .int .u8 0, .int .u8 0, .int .u8 0, .int .u8 0, .int .u8 0, .int .u8 0, .int .u8 0, .int .u8 0, .int .u8 0, .int .u8 0, .int .u8 0, .int .u8 0]))) | ((with_reducible refine wpList_store_row (o := ⟨none, _, _, _, _, _⟩) ?_ 46 (.tmp 19) (.tmp 81) ?_ w8.heap.size cs0 ?_ ?_ 46 _ HS8.out.1 HZc.out.info ?_ HZc.out.all ?_); rfl; rfl; rfl; rfl; exact HZc.out.size.symm; generalize World.setRow _ _ cs0 = w9 at *))
        refine (new_yes 16 _ (by decide)).mono ?_
        rintro e w10 ⟨bo, go, capo, rfl, hi, hn⟩
        have HIo := Lib.hid hi
        have HN10 := Lib.hid hn
        clear hi hn
        go_wp2_with fail
        have hK : Only (fun k => k = g6) w6 w10 := (((HNW.out.trNew HN7.out).trNew HN8.out).trNew HS8.out.2.2).trNew HN10.out
        have h6 : w5.heap.size ≤ g6 := (row_lt HR6.out).1
        have hm := HI5.out.lt
        have hcc := HI5o.out.lt
        have hg1 := (row_lt HR1.out).2
        have hga := (Array.getElem?_eq_some_iff.1 HA5.out).1
        have hsz2 := HN2.out.size
        have hsz3 := HN3.out.size
        have hsz4 := HN4.out.size
        have hsz5 := HN5.out.size
        have hg2 := HI.out.hg
        have HIm := Lib.hid (((HI5.out.new HN6.out).only hK (fun h => by have h3 : b = g6 := h; omega) (fun h => by have h3 : g2 = g6 := h; omega)).mono (Nat.zero_le _))
        have HIc := Lib.hid (((HI5o.out.new HN6.out).only hK (fun h => by have h3 : b3 = g6 := h; omega) (fun h => by have h3 : g3 = g6 := h; omega)).mono (Nat.zero_le _))
        have HIz := Lib.hid (HIo.out.mono (Nat.zero_le _))
        have HRw := Lib.hid (row_mono (hK.row (HN6.out.row (HN5.out.row (HN4.out.row (HN3.out.row (HN2.out.row HR1.out (by simp)) (by simp)) (by simp)) (by intro k hk; simp [Value.ownBlock] at hk; omega)) (by simp)) (by intro k hk; simp [Value.ownBlock] at hk; omega)) (Nat.zero_le _))
        have HAz := Lib.hid (hK.heap (HN6.out.heap HA5.out id) (by omega))
        have HB : Hid (New w w10) := ((((((HN0.out.tr HN1.out).tr HN2.out).tr HN3.out).tr HN4.out).trans HN5.out (by intro i hi he; have h0 := HN0.out.size; have h1 := HN1.out.size; omega)).tr HN6.out).trans hK (by intro i hi he; have h0 := HN0.out.size; have h1 := HN1.out.size; omega)
        have HSet0 : Hid (∀ W, Calls Try.prog 24 #[.pointer none, .int .u32 0, .agg #[.int .u8 0, .int .u8 0, .int .u8 0, .int .u8 0, .int .u8 0, .int .u8 0, .int .u8 0, .int .u8 0, .int .u8 0, .int .u8 0, .int .u8 0, .int .u8 0, .int .u8 0, .int .u8 0, .int .u8 0, .int .u8 0]] W fun e w' => e = .returned (.int .i64 1) ∧ New W w') := by
          intro W
          have h := setline_nil 0 zline W
          unfold lineV at h
          rwa [← zcells] at h
        clear hK h6  hm hcc hg1 hga hsz2 hsz3 hsz4 hsz5 hg2
        generalize accErr ws.length a n = E at *
        by_cases hE : E = 0
        · subst hE
          refine wp_region_facts (S := fun W => Img 0 W b g2 cap2 ys ∧ Img 0 W b3 g3 cap3 ws ∧ Img 0 W bo go capo (List.replicate 16 0) ∧ W.ownsRow 0 5 1 (.slice (some ⟨g, 0, none⟩) ws.length ws.length) ws.length (ws.map u8v) ∧ W.heap[w.heap.size]? = some (.cells #[.int .u32 a, .int .i64 n, .int .u32 x] 40 (0, 0))) New (FT (M201 b b3 bo g w.heap.size a n x ws ys)) [11, 12, 14, 7, 10, 8, 18, 20, 16, 5, 21] 188 (by kernel_rfl) (by kernel_rfl) rfl new_re new_tr (Stab.ft ?_) ?_ ?_ ?_ ?_
          · unfold M201
            repeat (first | exact stab_nil | refine stab_is ?_ | refine ownsB_new ?_)
          · exact ⟨HIm.out.new (new_dr _), HIc.out.new (new_dr _), HIz.out.new (new_dr _), HRw.out.drew, HAz.out⟩
          · intro t ht
            simp only [List.mem_cons, List.not_mem_nil, or_false] at ht
            rcases ht with rfl | rfl | rfl | rfl | rfl | rfl | rfl | rfl | rfl | rfl | rfl
            · rfl
            · rfl
            · rfl
            · rfl
            · rfl
            · rfl
            · rfl
            · rfl
            · rfl
            · rfl
            · rfl
          · refine ⟨?_, ?_, ?_, ?_, ?_, ?_, ?_, ?_, ?_, ?_, ?_, ?_, ?_, ?_, ?_, ?_, ?_, ?_, ?_, ?_, ?_, ?_, ?_, ?_, ?_, ?_, ?_, ?_, ?_, ?_, ?_, ?_, ?_, ?_, ?_, ?_, ?_, ?_, ?_, ?_, ?_, ?_, ?_, ?_, ?_, ?_, ?_, ?_, ?_, ?_, ?_, ?_, ?_, ?_, ?_, ?_, ?_, ?_, ?_, ?_, ?_, ?_, ?_, ?_, ?_, ?_, ?_, ?_, ?_, ?_, ?_, ?_, ?_, ?_, ?_, ?_, ?_, ?_, ?_, ?_, ?_, ?_, ?_, ?_, ?_, ?_, ?_, ?_, ?_, ?_, ?_, ?_, ?_, ?_, ?_, ?_, ?_, ?_, ?_, ?_, ?_, ?_, trivial⟩
            · exact fs_plain rfl (body_move new_re (t := 11) (.inl rfl) fun _ _ h => h)
            · exact fs_plain rfl (body_move new_re (t := 87) (.inl rfl) fun _ _ h => h)
            · exact fs_guard 88 rfl rfl (fun _ _ h => h) (body_move new_re (t := 12) (.inl rfl) fun _ _ h => h)
            · refine fs_guard 88 rfl rfl (fun _ _ h => h) (body_call fun aa ww hs hf => ?_)
              have h89 : aa.tmps[89]?.getD undef = (.int .i64 0) := hf 89 (by decide)
              refine ⟨13, #[.int .i64 0], by simp [go_sem, h89], ?_⟩
              exact (num_c 0 ww).mono fun e w'' ⟨he, hn⟩ => by subst hn; exact ⟨_, he, rfl, hs, new_re _⟩
            · refine fs_guard 88 rfl rfl (fun _ _ h => h) (body_val new_re fun aa ww hs hf => ?_)
              have h90 : aa.tmps[90]?.getD undef = (.int .i64 0) := hf 90 (by decide)
              exact ⟨(.bool true), by simp [go_sem, h90], rfl⟩
            · exact fs_guard 88 rfl rfl (fun _ _ h => h) (body_move new_re (t := 91) (.inl rfl) fun _ _ h => h)
            · exact step_skip (t := 92) rfl rfl (fun _ _ h => h) (fun _ _ => rfl)
            · exact step_skip (t := 92) rfl rfl (fun _ _ h => h) (fun _ _ => rfl)
            · exact step_skip (t := 92) rfl rfl (fun _ _ h => h) (fun _ _ => rfl)
            · exact step_skip (t := 92) rfl rfl (fun _ _ h => h) (fun _ _ => rfl)
            · refine fs_guard 88 rfl rfl (fun _ _ h => h) (body_val new_re fun aa ww hs hf => ?_)
              have h92 : aa.tmps[92]?.getD undef = (.bool true) := hf 92 (by decide)
              have h96 : aa.tmps[96]?.getD undef = undef := hf 96 (by decide)
              exact ⟨(.bool true), by simp [go_sem, h92, h96], rfl⟩
            · exact fs_plain rfl (body_pick new_re (c := 88) (x := 97) rfl (fun _ _ h => h) fun _ _ h => h)
            · exact fs_plain rfl (body_move new_re (t := 98) (.inl rfl) fun _ _ h => h)
            · exact fs_guard 99 rfl rfl (fun _ _ h => h) (body_move new_re (t := 10) (.inl rfl) fun _ _ h => h)
            · refine fs_guard 99 rfl rfl (fun _ _ h => h) (body_call fun aa ww hs hf => ?_)
              have h100 : aa.tmps[100]?.getD undef = (.pointer (some ⟨b3, 0, none⟩)) := hf 100 (by decide)
              refine ⟨19, #[.pointer (some ⟨b3, 0, none⟩)], by simp [go_sem, h100], ?_⟩
              exact (bytes_some hs.2.1).mono fun e w'' ⟨v, he, ho, hn⟩ => by obtain ⟨g, cap, rfl⟩ := row_some ho (by have := hs.2.1.pos; omega); exact ⟨_, he, ⟨g, cap, rfl, row_mono ho (Nat.zero_le _)⟩, ⟨hs.1.new hn, hs.2.1.new hn, hs.2.2.1.new hn, hn.row hs.2.2.2.1 (fun _ _ => id), hn.heap hs.2.2.2.2 id⟩, hn⟩
            · refine fs_guard 99 rfl rfl (fun _ _ h => h) (body_val new_re fun aa ww hs hf => ?_)
              have h101 : ownsB ws (aa.tmps[101]?.getD undef) ww := hf 101 (by decide)
              obtain ⟨gg, cc, hg1, hg2⟩ := h101
              rw [hg1] at hg2
              have hc := conv_own hg2
              exact ⟨(.string (str ws)), by simp [go_sem, hg1, hc], rfl⟩
            · exact fs_guard 99 rfl rfl (fun _ _ h => h) (body_move new_re (t := 7) (.inl rfl) fun _ _ h => h)
            · refine fs_guard 99 rfl rfl (fun _ _ h => h) (body_val new_re fun aa ww hs hf => ?_)
              have h103 : aa.tmps[103]?.getD undef = (.slice (some ⟨g, 0, none⟩) ws.length ws.length) := hf 103 (by decide)
              have hc := conv_own hs.2.2.2.1
              exact ⟨(.string (str ws)), by simp [go_sem, h103, hc], rfl⟩
            · refine fs_guard 99 rfl rfl (fun _ _ h => h) (body_val new_re fun aa ww hs hf => ?_)
              have h102 : aa.tmps[102]?.getD undef = (.string (str ws)) := hf 102 (by decide)
              have h104 : aa.tmps[104]?.getD undef = (.string (str ws)) := hf 104 (by decide)
              exact ⟨(.bool true), by simp [go_sem, h102, h104], rfl⟩
            · exact fs_plain rfl (body_pick new_re (c := 99) (x := 105) rfl (fun _ _ h => h) fun _ _ h => h)
            · exact fs_plain rfl (body_move new_re (t := 106) (.inl rfl) fun _ _ h => h)
            · exact fs_guard 107 rfl rfl (fun _ _ h => h) (body_move new_re (t := 8) (.inl rfl) fun _ _ h => h)
            · refine fs_guard 107 rfl rfl (fun _ _ h => h) (body_call fun aa ww hs hf => ?_)
              have h108 : aa.tmps[108]?.getD undef = (.pointer (some ⟨b, 0, none⟩)) := hf 108 (by decide)
              refine ⟨19, #[.pointer (some ⟨b, 0, none⟩)], by simp [go_sem, h108], ?_⟩
              exact (bytes_some hs.1).mono fun e w'' ⟨v, he, ho, hn⟩ => by obtain ⟨g, cap, rfl⟩ := row_some ho (by have := hs.1.pos; omega); exact ⟨_, he, ⟨g, cap, rfl, row_mono ho (Nat.zero_le _)⟩, ⟨hs.1.new hn, hs.2.1.new hn, hs.2.2.1.new hn, hn.row hs.2.2.2.1 (fun _ _ => id), hn.heap hs.2.2.2.2 id⟩, hn⟩
            · refine fs_guard 107 rfl rfl (fun _ _ h => h) (body_val new_re fun aa ww hs hf => ?_)
              have h109 : ownsB ys (aa.tmps[109]?.getD undef) ww := hf 109 (by decide)
              obtain ⟨gg, cc, hg1, hg2⟩ := h109
              rw [hg1] at hg2
              have hc := conv_own hg2
              exact ⟨(.string (str ys)), by simp [go_sem, hg1, hc], rfl⟩
            · exact fs_guard 107 rfl rfl (fun _ _ h => h) (body_move new_re (t := 14) (.inl rfl) fun _ _ h => h)
            · refine fs_guard 107 rfl rfl (fun _ _ h => h) (body_val new_re fun aa ww hs hf => ?_)
              have h110 : aa.tmps[110]?.getD undef = (.string (str ys)) := hf 110 (by decide)
              have h111 : aa.tmps[111]?.getD undef = (.string (str ys)) := hf 111 (by decide)
              exact ⟨(.bool true), by simp [go_sem, h110, h111], rfl⟩
            · exact fs_plain rfl (body_pick new_re (c := 107) (x := 112) rfl (fun _ _ h => h) fun _ _ h => h)
            · exact fs_plain rfl (body_move new_re (t := 113) (.inl rfl) fun _ _ h => h)
            · exact fs_guard 114 rfl rfl (fun _ _ h => h) (body_move new_re (t := 8) (.inl rfl) fun _ _ h => h)
            · exact fs_guard 114 rfl rfl (fun _ _ h => h) (body_move new_re (t := 10) (.inl rfl) fun _ _ h => h)
            · refine fs_guard 114 rfl rfl (fun _ _ h => h) (body_call fun aa ww hs hf => ?_)
              have h115 : aa.tmps[115]?.getD undef = (.pointer (some ⟨b, 0, none⟩)) := hf 115 (by decide)
              have h116 : aa.tmps[116]?.getD undef = (.pointer (some ⟨b3, 0, none⟩)) := hf 116 (by decide)
              refine ⟨28, #[.pointer (some ⟨b, 0, none⟩), .pointer (some ⟨b3, 0, none⟩)], by simp [go_sem, h115, h116], ?_⟩
              exact (same_some hs.1 hs.2.1).mono fun e w'' ⟨he, hn⟩ => ⟨_, he, rfl, ⟨hs.1.new hn, hs.2.1.new hn, hs.2.2.1.new hn, hn.row hs.2.2.2.1 (fun _ _ => id), hn.heap hs.2.2.2.2 id⟩, hn⟩
            · exact fs_guard 114 rfl rfl (fun _ _ h => h) (body_move new_re (t := 14) (.inl rfl) fun _ _ h => h)
            · exact fs_guard 114 rfl rfl (fun _ _ h => h) (body_move new_re (t := 7) (.inl rfl) fun _ _ h => h)
            · refine fs_guard 114 rfl rfl (fun _ _ h => h) (body_val new_re fun aa ww hs hf => ?_)
              have h119 : aa.tmps[119]?.getD undef = (.slice (some ⟨g, 0, none⟩) ws.length ws.length) := hf 119 (by decide)
              have hc := conv_own hs.2.2.2.1
              exact ⟨(.string (str ws)), by simp [go_sem, h119, hc], rfl⟩
            · refine fs_guard 114 rfl rfl (fun _ _ h => h) (body_val new_re fun aa ww hs hf => ?_)
              have h118 : aa.tmps[118]?.getD undef = (.string (str ys)) := hf 118 (by decide)
              have h120 : aa.tmps[120]?.getD undef = (.string (str ws)) := hf 120 (by decide)
              have hs0 := str_inj ys ws
              exact ⟨(.bool (decide (ys = ws))), by simp [go_sem, h118, h120, hs0], rfl⟩
            · refine fs_guard 114 rfl rfl (fun _ _ h => h) (body_val new_re fun aa ww hs hf => ?_)
              have h117 : aa.tmps[117]?.getD undef = (.bool (decide (ys = ws))) := hf 117 (by decide)
              have h121 : aa.tmps[121]?.getD undef = (.bool (decide (ys = ws))) := hf 121 (by decide)
              exact ⟨(.bool true), by simp [go_sem, h117, h121], rfl⟩
            · exact fs_plain rfl (body_pick new_re (c := 114) (x := 122) rfl (fun _ _ h => h) fun _ _ h => h)
            · exact fs_plain rfl (body_move new_re (t := 123) (.inl rfl) fun _ _ h => h)
            · exact fs_guard 124 rfl rfl (fun _ _ h => h) (body_move new_re (t := 18) (.inl rfl) fun _ _ h => h)
            · refine fs_guard 124 rfl rfl (fun _ _ h => h) (body_call fun aa ww hs hf => ?_)
              have h125 : aa.tmps[125]?.getD undef = (.int .i64 1) := hf 125 (by decide)
              refine ⟨13, #[.int .i64 1], by simp [go_sem, h125], ?_⟩
              exact (num_c 1 ww).mono fun e w'' ⟨he, hn⟩ => by subst hn; exact ⟨_, he, rfl, hs, new_re _⟩
            · refine fs_guard 124 rfl rfl (fun _ _ h => h) (body_val new_re fun aa ww hs hf => ?_)
              have h126 : aa.tmps[126]?.getD undef = (.int .i64 1) := hf 126 (by decide)
              exact ⟨(.bool true), by simp [go_sem, h126], rfl⟩
            · exact fs_plain rfl (body_pick new_re (c := 124) (x := 127) rfl (fun _ _ h => h) fun _ _ h => h)
            · exact fs_plain rfl (body_move new_re (t := 128) (.inl rfl) fun _ _ h => h)
            · exact fs_guard 129 rfl rfl (fun _ _ h => h) (body_move new_re (t := 20) (.inl rfl) fun _ _ h => h)
            · refine fs_guard 129 rfl rfl (fun _ _ h => h) (body_call fun aa ww hs hf => ?_)
              have h130 : aa.tmps[130]?.getD undef = (.int .i64 1) := hf 130 (by decide)
              refine ⟨13, #[.int .i64 1], by simp [go_sem, h130], ?_⟩
              exact (num_c 1 ww).mono fun e w'' ⟨he, hn⟩ => by subst hn; exact ⟨_, he, rfl, hs, new_re _⟩
            · refine fs_guard 129 rfl rfl (fun _ _ h => h) (body_val new_re fun aa ww hs hf => ?_)
              have h131 : aa.tmps[131]?.getD undef = (.int .i64 1) := hf 131 (by decide)
              exact ⟨(.bool true), by simp [go_sem, h131], rfl⟩
            · exact fs_plain rfl (body_pick new_re (c := 129) (x := 132) rfl (fun _ _ h => h) fun _ _ h => h)
            · exact fs_plain rfl (body_move new_re (t := 133) (.inl rfl) fun _ _ h => h)
            · exact fs_guard 134 rfl rfl (fun _ _ h => h) (body_move new_re (t := 16) (.inl rfl) fun _ _ h => h)
            · refine fs_guard 134 rfl rfl (fun _ _ h => h) (body_val new_re fun aa ww hs hf => ?_)
              have h5 : aa.tmps[5]?.getD undef = (.pointer (some ⟨w.heap.size, 0, none⟩)) := hf 5 (by decide)
              exact ⟨(.pointer (some ⟨w.heap.size, 0, none⟩)), by simp [go_sem, h5], rfl⟩
            · refine fs_guard 134 rfl rfl (fun _ _ h => h) (body_val new_re fun aa ww hs hf => ?_)
              have h136 : aa.tmps[136]?.getD undef = (.pointer (some ⟨w.heap.size, 0, none⟩)) := hf 136 (by decide)
              have hc := head_cell hs.2.2.2.2 0
              exact ⟨(.int .u32 a), by simp [go_sem, h136, hc], rfl⟩
            · refine fs_guard 134 rfl rfl (fun _ _ h => h) (body_val new_re fun aa ww hs hf => ?_)
              have h5 : aa.tmps[5]?.getD undef = (.pointer (some ⟨w.heap.size, 0, none⟩)) := hf 5 (by decide)
              exact ⟨(.pointer (some ⟨w.heap.size, 1, none⟩)), by simp [go_sem, h5], rfl⟩
            · refine fs_guard 134 rfl rfl (fun _ _ h => h) (body_val new_re fun aa ww hs hf => ?_)
              have h138 : aa.tmps[138]?.getD undef = (.pointer (some ⟨w.heap.size, 1, none⟩)) := hf 138 (by decide)
              have hc := head_cell hs.2.2.2.2 1
              exact ⟨(.int .i64 n), by simp [go_sem, h138, hc], rfl⟩
            · refine fs_guard 134 rfl rfl (fun _ _ h => h) (body_val new_re fun aa ww hs hf => ?_)
              have h5 : aa.tmps[5]?.getD undef = (.pointer (some ⟨w.heap.size, 0, none⟩)) := hf 5 (by decide)
              exact ⟨(.pointer (some ⟨w.heap.size, 2, none⟩)), by simp [go_sem, h5], rfl⟩
            · refine fs_guard 134 rfl rfl (fun _ _ h => h) (body_val new_re fun aa ww hs hf => ?_)
              have h140 : aa.tmps[140]?.getD undef = (.pointer (some ⟨w.heap.size, 2, none⟩)) := hf 140 (by decide)
              have hc := head_cell hs.2.2.2.2 2
              exact ⟨(.int .u32 x), by simp [go_sem, h140, hc], rfl⟩
            · refine fs_guard 134 rfl rfl (fun _ _ h => h) (body_call fun aa ww hs hf => ?_)
              have h135 : aa.tmps[135]?.getD undef = (.pointer none) := hf 135 (by decide)
              have h137 : aa.tmps[137]?.getD undef = (.int .u32 a) := hf 137 (by decide)
              have h139 : aa.tmps[139]?.getD undef = (.int .i64 n) := hf 139 (by decide)
              have h141 : aa.tmps[141]?.getD undef = (.int .u32 x) := hf 141 (by decide)
              refine ⟨21, #[.pointer none, .int .u32 a, .int .i64 n, .int .u32 x], by simp [go_sem, h135, h137, h139, h141], ?_⟩
              exact (write_nil a n x ww).mono fun e w'' ⟨he, hn⟩ => ⟨_, he, rfl, ⟨hs.1.new hn, hs.2.1.new hn, hs.2.2.1.new hn, hn.row hs.2.2.2.1 (fun _ _ => id), hn.heap hs.2.2.2.2 id⟩, hn⟩
            · refine fs_guard 134 rfl rfl (fun _ _ h => h) (body_call fun aa ww hs hf => ?_)
              have h142 : aa.tmps[142]?.getD undef = (.int .i64 1) := hf 142 (by decide)
              refine ⟨13, #[.int .i64 1], by simp [go_sem, h142], ?_⟩
              exact (num_c 1 ww).mono fun e w'' ⟨he, hn⟩ => by subst hn; exact ⟨_, he, rfl, hs, new_re _⟩
            · refine fs_guard 134 rfl rfl (fun _ _ h => h) (body_val new_re fun aa ww hs hf => ?_)
              have h143 : aa.tmps[143]?.getD undef = (.int .i64 1) := hf 143 (by decide)
              exact ⟨(.bool true), by simp [go_sem, h143], rfl⟩
            · exact fs_plain rfl (body_pick new_re (c := 134) (x := 144) rfl (fun _ _ h => h) fun _ _ h => h)
            · exact fs_plain rfl (body_move new_re (t := 145) (.inl rfl) fun _ _ h => h)
            · exact fs_guard 146 rfl rfl (fun _ _ h => h) (body_move new_re (t := 16) (.inl rfl) fun _ _ h => h)
            · refine fs_guard 146 rfl rfl (fun _ _ h => h) (body_val new_re fun aa ww hs hf => ?_)
              exact ⟨(.agg #[.int .u8 0, .int .u8 0, .int .u8 0, .int .u8 0, .int .u8 0, .int .u8 0, .int .u8 0, .int .u8 0, .int .u8 0, .int .u8 0, .int .u8 0, .int .u8 0, .int .u8 0, .int .u8 0, .int .u8 0, .int .u8 0]), by simp [go_sem], rfl⟩
            · refine fs_guard 146 rfl rfl (fun _ _ h => h) (body_call fun aa ww hs hf => ?_)
              have h147 : aa.tmps[147]?.getD undef = (.pointer none) := hf 147 (by decide)
              have h148 : aa.tmps[148]?.getD undef = (.agg #[.int .u8 0, .int .u8 0, .int .u8 0, .int .u8 0, .int .u8 0, .int .u8 0, .int .u8 0, .int .u8 0, .int .u8 0, .int .u8 0, .int .u8 0, .int .u8 0, .int .u8 0, .int .u8 0, .int .u8 0, .int .u8 0]) := hf 148 (by decide)
              refine ⟨24, #[.pointer none, .int .u32 0, .agg #[.int .u8 0, .int .u8 0, .int .u8 0, .int .u8 0, .int .u8 0, .int .u8 0, .int .u8 0, .int .u8 0, .int .u8 0, .int .u8 0, .int .u8 0, .int .u8 0, .int .u8 0, .int .u8 0, .int .u8 0, .int .u8 0]], by simp [go_sem, h147, h148], ?_⟩
              exact (HSet0.out ww).mono fun e w'' ⟨he, hn⟩ => ⟨_, he, rfl, ⟨hs.1.new hn, hs.2.1.new hn, hs.2.2.1.new hn, hn.row hs.2.2.2.1 (fun _ _ => id), hn.heap hs.2.2.2.2 id⟩, hn⟩
            · refine fs_guard 146 rfl rfl (fun _ _ h => h) (body_call fun aa ww hs hf => ?_)
              have h149 : aa.tmps[149]?.getD undef = (.int .i64 1) := hf 149 (by decide)
              refine ⟨13, #[.int .i64 1], by simp [go_sem, h149], ?_⟩
              exact (num_c 1 ww).mono fun e w'' ⟨he, hn⟩ => by subst hn; exact ⟨_, he, rfl, hs, new_re _⟩
            · refine fs_guard 146 rfl rfl (fun _ _ h => h) (body_val new_re fun aa ww hs hf => ?_)
              have h150 : aa.tmps[150]?.getD undef = (.int .i64 1) := hf 150 (by decide)
              exact ⟨(.bool true), by simp [go_sem, h150], rfl⟩
            · exact fs_plain rfl (body_pick new_re (c := 146) (x := 151) rfl (fun _ _ h => h) fun _ _ h => h)
            · exact fs_plain rfl (body_move new_re (t := 152) (.inl rfl) fun _ _ h => h)
            · exact fs_guard 153 rfl rfl (fun _ _ h => h) (body_move new_re (t := 16) (.inl rfl) fun _ _ h => h)
            · refine fs_guard 153 rfl rfl (fun _ _ h => h) (body_call fun aa ww hs hf => ?_)
              have h154 : aa.tmps[154]?.getD undef = (.pointer none) := hf 154 (by decide)
              refine ⟨15, #[.pointer none], by simp [go_sem, h154], ?_⟩
              exact (size_nil ww).mono fun e w'' ⟨he, hn⟩ => by subst hn; exact ⟨_, he, rfl, hs, new_re _⟩
            · refine fs_guard 153 rfl rfl (fun _ _ h => h) (body_val new_re fun aa ww hs hf => ?_)
              have h155 : aa.tmps[155]?.getD undef = (.int .i64 0) := hf 155 (by decide)
              exact ⟨(.bool true), by simp [go_sem, h155], rfl⟩
            · exact fs_plain rfl (body_pick new_re (c := 153) (x := 156) rfl (fun _ _ h => h) fun _ _ h => h)
            · exact fs_plain rfl (body_move new_re (t := 157) (.inl rfl) fun _ _ h => h)
            · exact fs_guard 158 rfl rfl (fun _ _ h => h) (body_move new_re (t := 16) (.inl rfl) fun _ _ h => h)
            · refine fs_guard 158 rfl rfl (fun _ _ h => h) (body_call fun aa ww hs hf => ?_)
              have h159 : aa.tmps[159]?.getD undef = (.pointer none) := hf 159 (by decide)
              refine ⟨19, #[.pointer none], by simp [go_sem, h159], ?_⟩
              exact (bytes_nil ww).mono fun e w'' ⟨he, hn⟩ => by subst hn; exact ⟨_, he, rfl, hs, new_re _⟩
            · refine fs_guard 158 rfl rfl (fun _ _ h => h) (body_val new_re fun aa ww hs hf => ?_)
              have h160 : aa.tmps[160]?.getD undef = (.slice none 0 0) := hf 160 (by decide)
              exact ⟨(.int .i64 0), by simp [go_sem, h160], rfl⟩
            · refine fs_guard 158 rfl rfl (fun _ _ h => h) (body_val new_re fun aa ww hs hf => ?_)
              have h161 : aa.tmps[161]?.getD undef = (.int .i64 0) := hf 161 (by decide)
              exact ⟨(.bool true), by simp [go_sem, h161], rfl⟩
            · exact fs_plain rfl (body_pick new_re (c := 158) (x := 162) rfl (fun _ _ h => h) fun _ _ h => h)
            · exact fs_plain rfl (body_move new_re (t := 163) (.inl rfl) fun _ _ h => h)
            · exact fs_guard 164 rfl rfl (fun _ _ h => h) (body_move new_re (t := 16) (.inl rfl) fun _ _ h => h)
            · refine fs_guard 164 rfl rfl (fun _ _ h => h) (body_call fun aa ww hs hf => ?_)
              have h165 : aa.tmps[165]?.getD undef = (.pointer none) := hf 165 (by decide)
              refine ⟨27, #[.pointer none], by simp [go_sem, h165], ?_⟩
              exact (copy_nil ww).mono fun e w'' ⟨he, hn⟩ => by subst hn; exact ⟨_, he, rfl, hs, new_re _⟩
            · refine fs_guard 164 rfl rfl (fun _ _ h => h) (body_val new_re fun aa ww hs hf => ?_)
              have h166 : aa.tmps[166]?.getD undef = (.pointer none) := hf 166 (by decide)
              exact ⟨(.bool true), by simp [go_sem, h166], rfl⟩
            · exact fs_plain rfl (body_pick new_re (c := 164) (x := 167) rfl (fun _ _ h => h) fun _ _ h => h)
            · exact fs_plain rfl (body_move new_re (t := 168) (.inl rfl) fun _ _ h => h)
            · exact fs_guard 169 rfl rfl (fun _ _ h => h) (body_move new_re (t := 16) (.inl rfl) fun _ _ h => h)
            · refine fs_guard 169 rfl rfl (fun _ _ h => h) (body_call fun aa ww hs hf => ?_)
              have h170 : aa.tmps[170]?.getD undef = (.pointer none) := hf 170 (by decide)
              refine ⟨28, #[.pointer none, .pointer none], by simp [go_sem, h170], ?_⟩
              exact (same_nil_nil ww).mono fun e w'' ⟨he, hn⟩ => by subst hn; exact ⟨_, he, rfl, hs, new_re _⟩
            · exact fs_plain rfl (body_pick new_re (c := 169) (x := 171) rfl (fun _ _ h => h) fun _ _ h => h)
            · exact fs_plain rfl (body_move new_re (t := 172) (.inl rfl) fun _ _ h => h)
            · exact fs_guard 173 rfl rfl (fun _ _ h => h) (body_move new_re (t := 16) (.inl rfl) fun _ _ h => h)
            · exact fs_guard 173 rfl rfl (fun _ _ h => h) (body_move new_re (t := 21) (.inl rfl) fun _ _ h => h)
            · refine fs_guard 173 rfl rfl (fun _ _ h => h) (body_call fun aa ww hs hf => ?_)
              have h174 : aa.tmps[174]?.getD undef = (.pointer none) := hf 174 (by decide)
              have h175 : aa.tmps[175]?.getD undef = (.pointer (some ⟨bo, 0, none⟩)) := hf 175 (by decide)
              refine ⟨28, #[.pointer none, .pointer (some ⟨bo, 0, none⟩)], by simp [go_sem, h174, h175], ?_⟩
              exact (same_nil_some hs.2.2.1).mono fun e w'' ⟨he, hn⟩ => by subst hn; exact ⟨_, he, rfl, hs, new_re _⟩
            · refine fs_guard 173 rfl rfl (fun _ _ h => h) (body_val new_re fun aa ww hs hf => ?_)
              have h176 : aa.tmps[176]?.getD undef = (.bool false) := hf 176 (by decide)
              exact ⟨(.bool true), by simp [go_sem, h176], rfl⟩
            · exact fs_plain rfl (body_pick new_re (c := 173) (x := 177) rfl (fun _ _ h => h) fun _ _ h => h)
            · exact fs_plain rfl (body_move new_re (t := 178) (.inl rfl) fun _ _ h => h)
            · exact fs_guard 179 rfl rfl (fun _ _ h => h) (body_move new_re (t := 21) (.inl rfl) fun _ _ h => h)
            · exact fs_guard 179 rfl rfl (fun _ _ h => h) (body_move new_re (t := 16) (.inl rfl) fun _ _ h => h)
            · refine fs_guard 179 rfl rfl (fun _ _ h => h) (body_call fun aa ww hs hf => ?_)
              have h180 : aa.tmps[180]?.getD undef = (.pointer (some ⟨bo, 0, none⟩)) := hf 180 (by decide)
              have h181 : aa.tmps[181]?.getD undef = (.pointer none) := hf 181 (by decide)
              refine ⟨28, #[.pointer (some ⟨bo, 0, none⟩), .pointer none], by simp [go_sem, h180, h181], ?_⟩
              exact (same_some_nil hs.2.2.1).mono fun e w'' ⟨he, hn⟩ => by subst hn; exact ⟨_, he, rfl, hs, new_re _⟩
            · refine fs_guard 179 rfl rfl (fun _ _ h => h) (body_val new_re fun aa ww hs hf => ?_)
              have h182 : aa.tmps[182]?.getD undef = (.bool false) := hf 182 (by decide)
              exact ⟨(.bool true), by simp [go_sem, h182], rfl⟩
            · exact fs_plain rfl (body_pick new_re (c := 179) (x := 183) rfl (fun _ _ h => h) fun _ _ h => h)
            · exact fs_plain rfl (body_move new_re (t := 184) (.inl rfl) fun _ _ h => h)
            · refine fs_guard 185 rfl rfl (fun _ _ h => h) (body_call fun aa ww hs hf => ?_)
              refine ⟨14, #[], by simp [go_sem], ?_⟩
              exact (works_c ww).mono fun e w'' ⟨he, hn⟩ => ⟨_, he, rfl, ⟨hs.1.new hn, hs.2.1.new hn, hs.2.2.1.new hn, hn.row hs.2.2.2.1 (fun _ _ => id), hn.heap hs.2.2.2.2 id⟩, hn⟩
            · exact fs_plain rfl (body_pick new_re (c := 185) (x := 186) rfl (fun _ _ h => h) fun _ _ h => h)
            · exact fs_plain rfl (body_move new_re (t := 187) (.inr rfl) fun _ _ h => h)
          · intro a w hw
            go_wp2
            refine ⟨hw.defers, _, results_tmp rfl _ _ _, ?_⟩
            rw [show a.tmps.getD 6 undef = .bool true from hw.facts 101 6 rfl rfl]
            exact ⟨rfl, (HB.out.trans (((new_dr _)).tr hw.ext) (fun _ _ h => h.elim)).nb⟩
        · have hne : (E == 0) = false := by simpa using hE
          have hyw : ys = ws := HOr.out.resolve_left hE
          refine wp_region_facts (S := fun W => Img 0 W b g2 cap2 ys ∧ Img 0 W b3 g3 cap3 ws ∧ Img 0 W bo go capo (List.replicate 16 0) ∧ W.ownsRow 0 5 1 (.slice (some ⟨g, 0, none⟩) ws.length ws.length) ws.length (ws.map u8v) ∧ W.heap[w.heap.size]? = some (.cells #[.int .u32 a, .int .i64 n, .int .u32 x] 40 (0, 0))) New (FT (M200 b b3 bo g w.heap.size a n x ws ys E)) [11, 12, 14, 7, 10, 8, 18, 20, 16, 5, 21] 188 (by kernel_rfl) (by kernel_rfl) rfl new_re new_tr (Stab.ft ?_) ?_ ?_ ?_ ?_
          · unfold M200
            repeat (first | exact stab_nil | refine stab_is ?_ | refine ownsB_new ?_)
          · exact ⟨HIm.out.new (new_dr _), HIc.out.new (new_dr _), HIz.out.new (new_dr _), HRw.out.drew, HAz.out⟩
          · intro t ht
            simp only [List.mem_cons, List.not_mem_nil, or_false] at ht
            rcases ht with rfl | rfl | rfl | rfl | rfl | rfl | rfl | rfl | rfl | rfl | rfl
            · rfl
            · rfl
            · rfl
            · rfl
            · rfl
            · rfl
            · rfl
            · rfl
            · rfl
            · rfl
            · rfl
          · refine ⟨?_, ?_, ?_, ?_, ?_, ?_, ?_, ?_, ?_, ?_, ?_, ?_, ?_, ?_, ?_, ?_, ?_, ?_, ?_, ?_, ?_, ?_, ?_, ?_, ?_, ?_, ?_, ?_, ?_, ?_, ?_, ?_, ?_, ?_, ?_, ?_, ?_, ?_, ?_, ?_, ?_, ?_, ?_, ?_, ?_, ?_, ?_, ?_, ?_, ?_, ?_, ?_, ?_, ?_, ?_, ?_, ?_, ?_, ?_, ?_, ?_, ?_, ?_, ?_, ?_, ?_, ?_, ?_, ?_, ?_, ?_, ?_, ?_, ?_, ?_, ?_, ?_, ?_, ?_, ?_, ?_, ?_, ?_, ?_, ?_, ?_, ?_, ?_, ?_, ?_, ?_, ?_, ?_, ?_, ?_, ?_, ?_, ?_, ?_, ?_, ?_, ?_, trivial⟩
            · exact fs_plain rfl (body_move new_re (t := 11) (.inl rfl) fun _ _ h => h)
            · exact fs_plain rfl (body_move new_re (t := 87) (.inl rfl) fun _ _ h => h)
            · exact fs_guard 88 rfl rfl (fun _ _ h => h) (body_move new_re (t := 12) (.inl rfl) fun _ _ h => h)
            · refine fs_guard 88 rfl rfl (fun _ _ h => h) (body_call fun aa ww hs hf => ?_)
              have h89 : aa.tmps[89]?.getD undef = (.int .i64 E) := hf 89 (by decide)
              refine ⟨13, #[.int .i64 E], by simp [go_sem, h89], ?_⟩
              exact (num_c E ww).mono fun e w'' ⟨he, hn⟩ => by subst hn; exact ⟨_, he, rfl, hs, new_re _⟩
            · refine fs_guard 88 rfl rfl (fun _ _ h => h) (body_val new_re fun aa ww hs hf => ?_)
              have h90 : aa.tmps[90]?.getD undef = (.int .i64 E) := hf 90 (by decide)
              exact ⟨(.bool false), by simp [go_sem, h90, hne], rfl⟩
            · exact fs_guard 88 rfl rfl (fun _ _ h => h) (body_move new_re (t := 91) (.inl rfl) fun _ _ h => h)
            · exact fs_guard 92 rfl rfl (fun _ _ h => h) (body_move new_re (t := 14) (.inl rfl) fun _ _ h => h)
            · exact fs_guard 92 rfl rfl (fun _ _ h => h) (body_move new_re (t := 7) (.inl rfl) fun _ _ h => h)
            · refine fs_guard 92 rfl rfl (fun _ _ h => h) (body_val new_re fun aa ww hs hf => ?_)
              have h94 : aa.tmps[94]?.getD undef = (.slice (some ⟨g, 0, none⟩) ws.length ws.length) := hf 94 (by decide)
              have hc := conv_own hs.2.2.2.1
              exact ⟨(.string (str ws)), by simp [go_sem, h94, hc], rfl⟩
            · refine fs_guard 92 rfl rfl (fun _ _ h => h) (body_val new_re fun aa ww hs hf => ?_)
              have h93 : aa.tmps[93]?.getD undef = (.string (str ys)) := hf 93 (by decide)
              have h95 : aa.tmps[95]?.getD undef = (.string (str ws)) := hf 95 (by decide)
              exact ⟨(.bool true), by simp [go_sem, h93, h95, hyw], rfl⟩
            · refine fs_guard 88 rfl rfl (fun _ _ h => h) (body_val new_re fun aa ww hs hf => ?_)
              have h92 : aa.tmps[92]?.getD undef = (.bool false) := hf 92 (by decide)
              have h96 : aa.tmps[96]?.getD undef = (.bool true) := hf 96 (by decide)
              exact ⟨(.bool true), by simp [go_sem, h92, h96], rfl⟩
            · exact fs_plain rfl (body_pick new_re (c := 88) (x := 97) rfl (fun _ _ h => h) fun _ _ h => h)
            · exact fs_plain rfl (body_move new_re (t := 98) (.inl rfl) fun _ _ h => h)
            · exact fs_guard 99 rfl rfl (fun _ _ h => h) (body_move new_re (t := 10) (.inl rfl) fun _ _ h => h)
            · refine fs_guard 99 rfl rfl (fun _ _ h => h) (body_call fun aa ww hs hf => ?_)
              have h100 : aa.tmps[100]?.getD undef = (.pointer (some ⟨b3, 0, none⟩)) := hf 100 (by decide)
              refine ⟨19, #[.pointer (some ⟨b3, 0, none⟩)], by simp [go_sem, h100], ?_⟩
              exact (bytes_some hs.2.1).mono fun e w'' ⟨v, he, ho, hn⟩ => by obtain ⟨g, cap, rfl⟩ := row_some ho (by have := hs.2.1.pos; omega); exact ⟨_, he, ⟨g, cap, rfl, row_mono ho (Nat.zero_le _)⟩, ⟨hs.1.new hn, hs.2.1.new hn, hs.2.2.1.new hn, hn.row hs.2.2.2.1 (fun _ _ => id), hn.heap hs.2.2.2.2 id⟩, hn⟩
            · refine fs_guard 99 rfl rfl (fun _ _ h => h) (body_val new_re fun aa ww hs hf => ?_)
              have h101 : ownsB ws (aa.tmps[101]?.getD undef) ww := hf 101 (by decide)
              obtain ⟨gg, cc, hg1, hg2⟩ := h101
              rw [hg1] at hg2
              have hc := conv_own hg2
              exact ⟨(.string (str ws)), by simp [go_sem, hg1, hc], rfl⟩
            · exact fs_guard 99 rfl rfl (fun _ _ h => h) (body_move new_re (t := 7) (.inl rfl) fun _ _ h => h)
            · refine fs_guard 99 rfl rfl (fun _ _ h => h) (body_val new_re fun aa ww hs hf => ?_)
              have h103 : aa.tmps[103]?.getD undef = (.slice (some ⟨g, 0, none⟩) ws.length ws.length) := hf 103 (by decide)
              have hc := conv_own hs.2.2.2.1
              exact ⟨(.string (str ws)), by simp [go_sem, h103, hc], rfl⟩
            · refine fs_guard 99 rfl rfl (fun _ _ h => h) (body_val new_re fun aa ww hs hf => ?_)
              have h102 : aa.tmps[102]?.getD undef = (.string (str ws)) := hf 102 (by decide)
              have h104 : aa.tmps[104]?.getD undef = (.string (str ws)) := hf 104 (by decide)
              exact ⟨(.bool true), by simp [go_sem, h102, h104], rfl⟩
            · exact fs_plain rfl (body_pick new_re (c := 99) (x := 105) rfl (fun _ _ h => h) fun _ _ h => h)
            · exact fs_plain rfl (body_move new_re (t := 106) (.inl rfl) fun _ _ h => h)
            · exact fs_guard 107 rfl rfl (fun _ _ h => h) (body_move new_re (t := 8) (.inl rfl) fun _ _ h => h)
            · refine fs_guard 107 rfl rfl (fun _ _ h => h) (body_call fun aa ww hs hf => ?_)
              have h108 : aa.tmps[108]?.getD undef = (.pointer (some ⟨b, 0, none⟩)) := hf 108 (by decide)
              refine ⟨19, #[.pointer (some ⟨b, 0, none⟩)], by simp [go_sem, h108], ?_⟩
              exact (bytes_some hs.1).mono fun e w'' ⟨v, he, ho, hn⟩ => by obtain ⟨g, cap, rfl⟩ := row_some ho (by have := hs.1.pos; omega); exact ⟨_, he, ⟨g, cap, rfl, row_mono ho (Nat.zero_le _)⟩, ⟨hs.1.new hn, hs.2.1.new hn, hs.2.2.1.new hn, hn.row hs.2.2.2.1 (fun _ _ => id), hn.heap hs.2.2.2.2 id⟩, hn⟩
            · refine fs_guard 107 rfl rfl (fun _ _ h => h) (body_val new_re fun aa ww hs hf => ?_)
              have h109 : ownsB ys (aa.tmps[109]?.getD undef) ww := hf 109 (by decide)
              obtain ⟨gg, cc, hg1, hg2⟩ := h109
              rw [hg1] at hg2
              have hc := conv_own hg2
              exact ⟨(.string (str ys)), by simp [go_sem, hg1, hc], rfl⟩
            · exact fs_guard 107 rfl rfl (fun _ _ h => h) (body_move new_re (t := 14) (.inl rfl) fun _ _ h => h)
            · refine fs_guard 107 rfl rfl (fun _ _ h => h) (body_val new_re fun aa ww hs hf => ?_)
              have h110 : aa.tmps[110]?.getD undef = (.string (str ys)) := hf 110 (by decide)
              have h111 : aa.tmps[111]?.getD undef = (.string (str ys)) := hf 111 (by decide)
              exact ⟨(.bool true), by simp [go_sem, h110, h111], rfl⟩
            · exact fs_plain rfl (body_pick new_re (c := 107) (x := 112) rfl (fun _ _ h => h) fun _ _ h => h)
            · exact fs_plain rfl (body_move new_re (t := 113) (.inl rfl) fun _ _ h => h)
            · exact fs_guard 114 rfl rfl (fun _ _ h => h) (body_move new_re (t := 8) (.inl rfl) fun _ _ h => h)
            · exact fs_guard 114 rfl rfl (fun _ _ h => h) (body_move new_re (t := 10) (.inl rfl) fun _ _ h => h)
            · refine fs_guard 114 rfl rfl (fun _ _ h => h) (body_call fun aa ww hs hf => ?_)
              have h115 : aa.tmps[115]?.getD undef = (.pointer (some ⟨b, 0, none⟩)) := hf 115 (by decide)
              have h116 : aa.tmps[116]?.getD undef = (.pointer (some ⟨b3, 0, none⟩)) := hf 116 (by decide)
              refine ⟨28, #[.pointer (some ⟨b, 0, none⟩), .pointer (some ⟨b3, 0, none⟩)], by simp [go_sem, h115, h116], ?_⟩
              exact (same_some hs.1 hs.2.1).mono fun e w'' ⟨he, hn⟩ => ⟨_, he, rfl, ⟨hs.1.new hn, hs.2.1.new hn, hs.2.2.1.new hn, hn.row hs.2.2.2.1 (fun _ _ => id), hn.heap hs.2.2.2.2 id⟩, hn⟩
            · exact fs_guard 114 rfl rfl (fun _ _ h => h) (body_move new_re (t := 14) (.inl rfl) fun _ _ h => h)
            · exact fs_guard 114 rfl rfl (fun _ _ h => h) (body_move new_re (t := 7) (.inl rfl) fun _ _ h => h)
            · refine fs_guard 114 rfl rfl (fun _ _ h => h) (body_val new_re fun aa ww hs hf => ?_)
              have h119 : aa.tmps[119]?.getD undef = (.slice (some ⟨g, 0, none⟩) ws.length ws.length) := hf 119 (by decide)
              have hc := conv_own hs.2.2.2.1
              exact ⟨(.string (str ws)), by simp [go_sem, h119, hc], rfl⟩
            · refine fs_guard 114 rfl rfl (fun _ _ h => h) (body_val new_re fun aa ww hs hf => ?_)
              have h118 : aa.tmps[118]?.getD undef = (.string (str ys)) := hf 118 (by decide)
              have h120 : aa.tmps[120]?.getD undef = (.string (str ws)) := hf 120 (by decide)
              have hs0 := str_inj ys ws
              exact ⟨(.bool (decide (ys = ws))), by simp [go_sem, h118, h120, hs0], rfl⟩
            · refine fs_guard 114 rfl rfl (fun _ _ h => h) (body_val new_re fun aa ww hs hf => ?_)
              have h117 : aa.tmps[117]?.getD undef = (.bool (decide (ys = ws))) := hf 117 (by decide)
              have h121 : aa.tmps[121]?.getD undef = (.bool (decide (ys = ws))) := hf 121 (by decide)
              exact ⟨(.bool true), by simp [go_sem, h117, h121], rfl⟩
            · exact fs_plain rfl (body_pick new_re (c := 114) (x := 122) rfl (fun _ _ h => h) fun _ _ h => h)
            · exact fs_plain rfl (body_move new_re (t := 123) (.inl rfl) fun _ _ h => h)
            · exact fs_guard 124 rfl rfl (fun _ _ h => h) (body_move new_re (t := 18) (.inl rfl) fun _ _ h => h)
            · refine fs_guard 124 rfl rfl (fun _ _ h => h) (body_call fun aa ww hs hf => ?_)
              have h125 : aa.tmps[125]?.getD undef = (.int .i64 1) := hf 125 (by decide)
              refine ⟨13, #[.int .i64 1], by simp [go_sem, h125], ?_⟩
              exact (num_c 1 ww).mono fun e w'' ⟨he, hn⟩ => by subst hn; exact ⟨_, he, rfl, hs, new_re _⟩
            · refine fs_guard 124 rfl rfl (fun _ _ h => h) (body_val new_re fun aa ww hs hf => ?_)
              have h126 : aa.tmps[126]?.getD undef = (.int .i64 1) := hf 126 (by decide)
              exact ⟨(.bool true), by simp [go_sem, h126], rfl⟩
            · exact fs_plain rfl (body_pick new_re (c := 124) (x := 127) rfl (fun _ _ h => h) fun _ _ h => h)
            · exact fs_plain rfl (body_move new_re (t := 128) (.inl rfl) fun _ _ h => h)
            · exact fs_guard 129 rfl rfl (fun _ _ h => h) (body_move new_re (t := 20) (.inl rfl) fun _ _ h => h)
            · refine fs_guard 129 rfl rfl (fun _ _ h => h) (body_call fun aa ww hs hf => ?_)
              have h130 : aa.tmps[130]?.getD undef = (.int .i64 1) := hf 130 (by decide)
              refine ⟨13, #[.int .i64 1], by simp [go_sem, h130], ?_⟩
              exact (num_c 1 ww).mono fun e w'' ⟨he, hn⟩ => by subst hn; exact ⟨_, he, rfl, hs, new_re _⟩
            · refine fs_guard 129 rfl rfl (fun _ _ h => h) (body_val new_re fun aa ww hs hf => ?_)
              have h131 : aa.tmps[131]?.getD undef = (.int .i64 1) := hf 131 (by decide)
              exact ⟨(.bool true), by simp [go_sem, h131], rfl⟩
            · exact fs_plain rfl (body_pick new_re (c := 129) (x := 132) rfl (fun _ _ h => h) fun _ _ h => h)
            · exact fs_plain rfl (body_move new_re (t := 133) (.inl rfl) fun _ _ h => h)
            · exact fs_guard 134 rfl rfl (fun _ _ h => h) (body_move new_re (t := 16) (.inl rfl) fun _ _ h => h)
            · refine fs_guard 134 rfl rfl (fun _ _ h => h) (body_val new_re fun aa ww hs hf => ?_)
              have h5 : aa.tmps[5]?.getD undef = (.pointer (some ⟨w.heap.size, 0, none⟩)) := hf 5 (by decide)
              exact ⟨(.pointer (some ⟨w.heap.size, 0, none⟩)), by simp [go_sem, h5], rfl⟩
            · refine fs_guard 134 rfl rfl (fun _ _ h => h) (body_val new_re fun aa ww hs hf => ?_)
              have h136 : aa.tmps[136]?.getD undef = (.pointer (some ⟨w.heap.size, 0, none⟩)) := hf 136 (by decide)
              have hc := head_cell hs.2.2.2.2 0
              exact ⟨(.int .u32 a), by simp [go_sem, h136, hc], rfl⟩
            · refine fs_guard 134 rfl rfl (fun _ _ h => h) (body_val new_re fun aa ww hs hf => ?_)
              have h5 : aa.tmps[5]?.getD undef = (.pointer (some ⟨w.heap.size, 0, none⟩)) := hf 5 (by decide)
              exact ⟨(.pointer (some ⟨w.heap.size, 1, none⟩)), by simp [go_sem, h5], rfl⟩
            · refine fs_guard 134 rfl rfl (fun _ _ h => h) (body_val new_re fun aa ww hs hf => ?_)
              have h138 : aa.tmps[138]?.getD undef = (.pointer (some ⟨w.heap.size, 1, none⟩)) := hf 138 (by decide)
              have hc := head_cell hs.2.2.2.2 1
              exact ⟨(.int .i64 n), by simp [go_sem, h138, hc], rfl⟩
            · refine fs_guard 134 rfl rfl (fun _ _ h => h) (body_val new_re fun aa ww hs hf => ?_)
              have h5 : aa.tmps[5]?.getD undef = (.pointer (some ⟨w.heap.size, 0, none⟩)) := hf 5 (by decide)
              exact ⟨(.pointer (some ⟨w.heap.size, 2, none⟩)), by simp [go_sem, h5], rfl⟩
            · refine fs_guard 134 rfl rfl (fun _ _ h => h) (body_val new_re fun aa ww hs hf => ?_)
              have h140 : aa.tmps[140]?.getD undef = (.pointer (some ⟨w.heap.size, 2, none⟩)) := hf 140 (by decide)
              have hc := head_cell hs.2.2.2.2 2
              exact ⟨(.int .u32 x), by simp [go_sem, h140, hc], rfl⟩
            · refine fs_guard 134 rfl rfl (fun _ _ h => h) (body_call fun aa ww hs hf => ?_)
              have h135 : aa.tmps[135]?.getD undef = (.pointer none) := hf 135 (by decide)
              have h137 : aa.tmps[137]?.getD undef = (.int .u32 a) := hf 137 (by decide)
              have h139 : aa.tmps[139]?.getD undef = (.int .i64 n) := hf 139 (by decide)
              have h141 : aa.tmps[141]?.getD undef = (.int .u32 x) := hf 141 (by decide)
              refine ⟨21, #[.pointer none, .int .u32 a, .int .i64 n, .int .u32 x], by simp [go_sem, h135, h137, h139, h141], ?_⟩
              exact (write_nil a n x ww).mono fun e w'' ⟨he, hn⟩ => ⟨_, he, rfl, ⟨hs.1.new hn, hs.2.1.new hn, hs.2.2.1.new hn, hn.row hs.2.2.2.1 (fun _ _ => id), hn.heap hs.2.2.2.2 id⟩, hn⟩
            · refine fs_guard 134 rfl rfl (fun _ _ h => h) (body_call fun aa ww hs hf => ?_)
              have h142 : aa.tmps[142]?.getD undef = (.int .i64 1) := hf 142 (by decide)
              refine ⟨13, #[.int .i64 1], by simp [go_sem, h142], ?_⟩
              exact (num_c 1 ww).mono fun e w'' ⟨he, hn⟩ => by subst hn; exact ⟨_, he, rfl, hs, new_re _⟩
            · refine fs_guard 134 rfl rfl (fun _ _ h => h) (body_val new_re fun aa ww hs hf => ?_)
              have h143 : aa.tmps[143]?.getD undef = (.int .i64 1) := hf 143 (by decide)
              exact ⟨(.bool true), by simp [go_sem, h143], rfl⟩
            · exact fs_plain rfl (body_pick new_re (c := 134) (x := 144) rfl (fun _ _ h => h) fun _ _ h => h)
            · exact fs_plain rfl (body_move new_re (t := 145) (.inl rfl) fun _ _ h => h)
            · exact fs_guard 146 rfl rfl (fun _ _ h => h) (body_move new_re (t := 16) (.inl rfl) fun _ _ h => h)
            · refine fs_guard 146 rfl rfl (fun _ _ h => h) (body_val new_re fun aa ww hs hf => ?_)
              exact ⟨(.agg #[.int .u8 0, .int .u8 0, .int .u8 0, .int .u8 0, .int .u8 0, .int .u8 0, .int .u8 0, .int .u8 0, .int .u8 0, .int .u8 0, .int .u8 0, .int .u8 0, .int .u8 0, .int .u8 0, .int .u8 0, .int .u8 0]), by simp [go_sem], rfl⟩
            · refine fs_guard 146 rfl rfl (fun _ _ h => h) (body_call fun aa ww hs hf => ?_)
              have h147 : aa.tmps[147]?.getD undef = (.pointer none) := hf 147 (by decide)
              have h148 : aa.tmps[148]?.getD undef = (.agg #[.int .u8 0, .int .u8 0, .int .u8 0, .int .u8 0, .int .u8 0, .int .u8 0, .int .u8 0, .int .u8 0, .int .u8 0, .int .u8 0, .int .u8 0, .int .u8 0, .int .u8 0, .int .u8 0, .int .u8 0, .int .u8 0]) := hf 148 (by decide)
              refine ⟨24, #[.pointer none, .int .u32 0, .agg #[.int .u8 0, .int .u8 0, .int .u8 0, .int .u8 0, .int .u8 0, .int .u8 0, .int .u8 0, .int .u8 0, .int .u8 0, .int .u8 0, .int .u8 0, .int .u8 0, .int .u8 0, .int .u8 0, .int .u8 0, .int .u8 0]], by simp [go_sem, h147, h148], ?_⟩
              exact (HSet0.out ww).mono fun e w'' ⟨he, hn⟩ => ⟨_, he, rfl, ⟨hs.1.new hn, hs.2.1.new hn, hs.2.2.1.new hn, hn.row hs.2.2.2.1 (fun _ _ => id), hn.heap hs.2.2.2.2 id⟩, hn⟩
            · refine fs_guard 146 rfl rfl (fun _ _ h => h) (body_call fun aa ww hs hf => ?_)
              have h149 : aa.tmps[149]?.getD undef = (.int .i64 1) := hf 149 (by decide)
              refine ⟨13, #[.int .i64 1], by simp [go_sem, h149], ?_⟩
              exact (num_c 1 ww).mono fun e w'' ⟨he, hn⟩ => by subst hn; exact ⟨_, he, rfl, hs, new_re _⟩
            · refine fs_guard 146 rfl rfl (fun _ _ h => h) (body_val new_re fun aa ww hs hf => ?_)
              have h150 : aa.tmps[150]?.getD undef = (.int .i64 1) := hf 150 (by decide)
              exact ⟨(.bool true), by simp [go_sem, h150], rfl⟩
            · exact fs_plain rfl (body_pick new_re (c := 146) (x := 151) rfl (fun _ _ h => h) fun _ _ h => h)
            · exact fs_plain rfl (body_move new_re (t := 152) (.inl rfl) fun _ _ h => h)
            · exact fs_guard 153 rfl rfl (fun _ _ h => h) (body_move new_re (t := 16) (.inl rfl) fun _ _ h => h)
            · refine fs_guard 153 rfl rfl (fun _ _ h => h) (body_call fun aa ww hs hf => ?_)
              have h154 : aa.tmps[154]?.getD undef = (.pointer none) := hf 154 (by decide)
              refine ⟨15, #[.pointer none], by simp [go_sem, h154], ?_⟩
              exact (size_nil ww).mono fun e w'' ⟨he, hn⟩ => by subst hn; exact ⟨_, he, rfl, hs, new_re _⟩
            · refine fs_guard 153 rfl rfl (fun _ _ h => h) (body_val new_re fun aa ww hs hf => ?_)
              have h155 : aa.tmps[155]?.getD undef = (.int .i64 0) := hf 155 (by decide)
              exact ⟨(.bool true), by simp [go_sem, h155], rfl⟩
            · exact fs_plain rfl (body_pick new_re (c := 153) (x := 156) rfl (fun _ _ h => h) fun _ _ h => h)
            · exact fs_plain rfl (body_move new_re (t := 157) (.inl rfl) fun _ _ h => h)
            · exact fs_guard 158 rfl rfl (fun _ _ h => h) (body_move new_re (t := 16) (.inl rfl) fun _ _ h => h)
            · refine fs_guard 158 rfl rfl (fun _ _ h => h) (body_call fun aa ww hs hf => ?_)
              have h159 : aa.tmps[159]?.getD undef = (.pointer none) := hf 159 (by decide)
              refine ⟨19, #[.pointer none], by simp [go_sem, h159], ?_⟩
              exact (bytes_nil ww).mono fun e w'' ⟨he, hn⟩ => by subst hn; exact ⟨_, he, rfl, hs, new_re _⟩
            · refine fs_guard 158 rfl rfl (fun _ _ h => h) (body_val new_re fun aa ww hs hf => ?_)
              have h160 : aa.tmps[160]?.getD undef = (.slice none 0 0) := hf 160 (by decide)
              exact ⟨(.int .i64 0), by simp [go_sem, h160], rfl⟩
            · refine fs_guard 158 rfl rfl (fun _ _ h => h) (body_val new_re fun aa ww hs hf => ?_)
              have h161 : aa.tmps[161]?.getD undef = (.int .i64 0) := hf 161 (by decide)
              exact ⟨(.bool true), by simp [go_sem, h161], rfl⟩
            · exact fs_plain rfl (body_pick new_re (c := 158) (x := 162) rfl (fun _ _ h => h) fun _ _ h => h)
            · exact fs_plain rfl (body_move new_re (t := 163) (.inl rfl) fun _ _ h => h)
            · exact fs_guard 164 rfl rfl (fun _ _ h => h) (body_move new_re (t := 16) (.inl rfl) fun _ _ h => h)
            · refine fs_guard 164 rfl rfl (fun _ _ h => h) (body_call fun aa ww hs hf => ?_)
              have h165 : aa.tmps[165]?.getD undef = (.pointer none) := hf 165 (by decide)
              refine ⟨27, #[.pointer none], by simp [go_sem, h165], ?_⟩
              exact (copy_nil ww).mono fun e w'' ⟨he, hn⟩ => by subst hn; exact ⟨_, he, rfl, hs, new_re _⟩
            · refine fs_guard 164 rfl rfl (fun _ _ h => h) (body_val new_re fun aa ww hs hf => ?_)
              have h166 : aa.tmps[166]?.getD undef = (.pointer none) := hf 166 (by decide)
              exact ⟨(.bool true), by simp [go_sem, h166], rfl⟩
            · exact fs_plain rfl (body_pick new_re (c := 164) (x := 167) rfl (fun _ _ h => h) fun _ _ h => h)
            · exact fs_plain rfl (body_move new_re (t := 168) (.inl rfl) fun _ _ h => h)
            · exact fs_guard 169 rfl rfl (fun _ _ h => h) (body_move new_re (t := 16) (.inl rfl) fun _ _ h => h)
            · refine fs_guard 169 rfl rfl (fun _ _ h => h) (body_call fun aa ww hs hf => ?_)
              have h170 : aa.tmps[170]?.getD undef = (.pointer none) := hf 170 (by decide)
              refine ⟨28, #[.pointer none, .pointer none], by simp [go_sem, h170], ?_⟩
              exact (same_nil_nil ww).mono fun e w'' ⟨he, hn⟩ => by subst hn; exact ⟨_, he, rfl, hs, new_re _⟩
            · exact fs_plain rfl (body_pick new_re (c := 169) (x := 171) rfl (fun _ _ h => h) fun _ _ h => h)
            · exact fs_plain rfl (body_move new_re (t := 172) (.inl rfl) fun _ _ h => h)
            · exact fs_guard 173 rfl rfl (fun _ _ h => h) (body_move new_re (t := 16) (.inl rfl) fun _ _ h => h)
            · exact fs_guard 173 rfl rfl (fun _ _ h => h) (body_move new_re (t := 21) (.inl rfl) fun _ _ h => h)
            · refine fs_guard 173 rfl rfl (fun _ _ h => h) (body_call fun aa ww hs hf => ?_)
              have h174 : aa.tmps[174]?.getD undef = (.pointer none) := hf 174 (by decide)
              have h175 : aa.tmps[175]?.getD undef = (.pointer (some ⟨bo, 0, none⟩)) := hf 175 (by decide)
              refine ⟨28, #[.pointer none, .pointer (some ⟨bo, 0, none⟩)], by simp [go_sem, h174, h175], ?_⟩
              exact (same_nil_some hs.2.2.1).mono fun e w'' ⟨he, hn⟩ => by subst hn; exact ⟨_, he, rfl, hs, new_re _⟩
            · refine fs_guard 173 rfl rfl (fun _ _ h => h) (body_val new_re fun aa ww hs hf => ?_)
              have h176 : aa.tmps[176]?.getD undef = (.bool false) := hf 176 (by decide)
              exact ⟨(.bool true), by simp [go_sem, h176], rfl⟩
            · exact fs_plain rfl (body_pick new_re (c := 173) (x := 177) rfl (fun _ _ h => h) fun _ _ h => h)
            · exact fs_plain rfl (body_move new_re (t := 178) (.inl rfl) fun _ _ h => h)
            · exact fs_guard 179 rfl rfl (fun _ _ h => h) (body_move new_re (t := 21) (.inl rfl) fun _ _ h => h)
            · exact fs_guard 179 rfl rfl (fun _ _ h => h) (body_move new_re (t := 16) (.inl rfl) fun _ _ h => h)
            · refine fs_guard 179 rfl rfl (fun _ _ h => h) (body_call fun aa ww hs hf => ?_)
              have h180 : aa.tmps[180]?.getD undef = (.pointer (some ⟨bo, 0, none⟩)) := hf 180 (by decide)
              have h181 : aa.tmps[181]?.getD undef = (.pointer none) := hf 181 (by decide)
              refine ⟨28, #[.pointer (some ⟨bo, 0, none⟩), .pointer none], by simp [go_sem, h180, h181], ?_⟩
              exact (same_some_nil hs.2.2.1).mono fun e w'' ⟨he, hn⟩ => by subst hn; exact ⟨_, he, rfl, hs, new_re _⟩
            · refine fs_guard 179 rfl rfl (fun _ _ h => h) (body_val new_re fun aa ww hs hf => ?_)
              have h182 : aa.tmps[182]?.getD undef = (.bool false) := hf 182 (by decide)
              exact ⟨(.bool true), by simp [go_sem, h182], rfl⟩
            · exact fs_plain rfl (body_pick new_re (c := 179) (x := 183) rfl (fun _ _ h => h) fun _ _ h => h)
            · exact fs_plain rfl (body_move new_re (t := 184) (.inl rfl) fun _ _ h => h)
            · refine fs_guard 185 rfl rfl (fun _ _ h => h) (body_call fun aa ww hs hf => ?_)
              refine ⟨14, #[], by simp [go_sem], ?_⟩
              exact (works_c ww).mono fun e w'' ⟨he, hn⟩ => ⟨_, he, rfl, ⟨hs.1.new hn, hs.2.1.new hn, hs.2.2.1.new hn, hn.row hs.2.2.2.1 (fun _ _ => id), hn.heap hs.2.2.2.2 id⟩, hn⟩
            · exact fs_plain rfl (body_pick new_re (c := 185) (x := 186) rfl (fun _ _ h => h) fun _ _ h => h)
            · exact fs_plain rfl (body_move new_re (t := 187) (.inr rfl) fun _ _ h => h)
          · intro a w hw
            go_wp2
            refine ⟨hw.defers, _, results_tmp rfl _ _ _, ?_⟩
            rw [show a.tmps.getD 6 undef = .bool true from hw.facts 101 6 rfl rfl]
            exact ⟨rfl, (HB.out.trans (((new_dr _)).tr hw.ext) (fun _ _ h => h.elim)).nb⟩
end Go.Proofs.Ytglepciddhbmbaa
