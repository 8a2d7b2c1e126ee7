/-
  The walk of ImageLines.
-/
import Derived.Test.YtglepciddhbmbaaWSets
namespace Go.Proofs.Ytglepciddhbmbaa
open Go.RowKit

def L10 (b C : Nat) (ws : List UInt8) (cs2 : Array Value) : List (Tmp × (Value → World → Prop)) :=
  [(12, is (.pointer (some ⟨C, 0, none⟩))), (13, is (.int .i64 4)), (14, is (.int .i64 4)), (10, is (.pointer (some ⟨b, 0, none⟩))), (9, ownsB ws), (48, is (.agg cs2)), (49, is (.agg #[.int .u8 0, .int .u8 0, .int .u8 0, .int .u8 0, .int .u8 0, .int .u8 0, .int .u8 0, .int .u8 0, .int .u8 0, .int .u8 0, .int .u8 0, .int .u8 0, .int .u8 0, .int .u8 0, .int .u8 0, .int .u8 0])), (50, is (.bool true)), (51, is (.bool true)), (52, is (.int .i64 4)), (53, is (.int .i64 4)), (54, is (.bool true)), (55, is (.bool true)), (56, is (.bool true)), (57, is (.int .i64 4)), (58, is (.int .i64 4)), (59, is (.bool true)), (60, is (.bool true)), (61, is (.bool true)), (62, is (.pointer (some ⟨b, 0, none⟩))), (63, ownsB ws), (64, is (.string (str ws))), (65, ownsB ws), (66, is (.string (str ws))), (67, is (.bool true)), (68, is (.bool true)), (69, is (.bool true)), (70, is (.bool true)), (71, is (.bool true)), (8, is (.bool true))]

def L16 (b g C a : Nat) (ws l : List UInt8) (cs2 : Array Value) : List (Tmp × (Value → World → Prop)) :=
  [(12, is (.pointer (some ⟨C, 0, none⟩))), (9, is (.slice (some ⟨g, 0, none⟩) ws.length ws.length)), (2, is (.int .u32 a)), (13, is (.int .i64 0)), (14, is (.int .i64 0)), (10, is (.pointer (some ⟨b, 0, none⟩))), (15, ownsB (setSpec ws a l)), (89, is (.agg cs2)), (90, is (.slice (some ⟨g, 0, none⟩) ws.length ws.length)), (91, is (.int .u32 a)), (92, is (.agg cs2)), (93, is (.bool true)), (94, is (.bool true)), (95, is (.int .i64 0)), (96, is (.int .i64 0)), (97, is (.bool true)), (98, is (.bool true)), (99, is (.bool true)), (100, is (.int .i64 0)), (101, is (.int .i64 0)), (102, is (.bool true)), (103, is (.bool true)), (104, is (.bool true)), (105, is (.pointer (some ⟨b, 0, none⟩))), (106, ownsB (setSpec ws a l)), (107, is (.string (str (setSpec ws a l)))), (108, ownsB (setSpec ws a l)), (109, is (.string (str (setSpec ws a l)))), (110, is (.bool true)), (111, is (.bool true)), (112, is (.bool true)), (113, is (.bool true)), (114, is (.bool true)), (8, is (.bool true))]

theorem app_cells {w : World} {base g n cap : Nat} {bs : List UInt8} (h : w.ownsRow base 5 1 (.slice (some ⟨g, 0, none⟩) n cap) n (bs.map u8v)) : (bs.map u8v).length = n * 1 ∧ ∀ j u, (bs.map u8v)[j]? = some u → (w.alloc (.cells #[] 5)).cell? ((⟨g, 0, none⟩ : Addr).add j) = some u := by
  refine ⟨h.1, fun j u hj => ?_⟩
  rw [addr_add]
  exact ((Only.refl (fun _ => False) w).alloc _).cell (sees_cells h j u hj) (by simp)
theorem spl_step (ws l : List UInt8) (a k : Nat) (hl : l.length = 16) (hk : k < 16) (ha : 16 * a + 16 ≤ ws.length) :
    (ws.take (16 * a) ++ (l.take k ++ ws.drop (16 * a + k))).set (16 * a + k) (l[k]'(by omega)) = ws.take (16 * a) ++ (l.take (k + 1) ++ ws.drop (16 * a + (k + 1))) := by
  have h1 : (ws.take (16 * a)).length = 16 * a := by simp; omega
  have h2 : (l.take k).length = k := by simp; omega
  rw [List.set_append_right _ _ (by omega), h1, List.set_append_right _ _ (by omega), h2, show 16 * a + k - 16 * a - k = 0 by omega, List.drop_eq_getElem_cons (show 16 * a + k < ws.length by omega), take_succ l k (by omega)]
  simp only [List.set_cons_zero, List.append_assoc, List.cons_append, List.nil_append, Nat.add_assoc]

set_option maxRecDepth 100000 in
set_option maxHeartbeats 8000000 in
theorem walk_ImageLines (w : World) (v : Value) (hv : ∃ bs, ByteArg w v bs) (wide : Int) (_h1 : (Lit.int .i64 wide).wf = true) (a : Int) (h2 : (Lit.int .u32 a).wf = true)
    (lv : Value) (hl : ∃ l : List UInt8, l.length = 16 ∧ lv = lineV l) :
    Calls Try.prog 9 #[v, .int .i64 wide, .int .u32 a, lv] w fun e w' => e = .returned (.bool true) ∧ Below w.heap.size w w' := by
  obtain ⟨bs, hv⟩ := hv
  obtain ⟨ha0, ha1⟩ := bounds_u32 h2
  obtain ⟨a, rfl⟩ := Int.eq_ofNat_of_zero_le ha0
  obtain ⟨l, hl, rfl⟩ := hl
  have hL := lineOf l hl
  unfold lineV
  generalize (l.map u8v).toArray = cs at *
  have hN0 : New w (w.alloc (.cells cs 46)) := (Only.refl _ w).alloc _
  have hv' : ByteArg (w.alloc (.cells cs 46)) v bs := by
    obtain ⟨va, cap, h1, h2, h3⟩ := hv
    refine ⟨va, cap, h1, h2, fun h => ?_⟩
    obtain ⟨b, o, h4, h5⟩ := h3 h
    exact ⟨b, o, h4, fun j u hj => hN0.cell (h5 j u hj) id⟩
  have HS := Lib.hid (sized_c v bs wide _ hv')
  have HN0 := Lib.hid hN0
  obtain ⟨va, cap, rfl, hm, _⟩ := hv
  unfold maxLen at hm
  have HA := Lib.hid (Go.heap_alloc_new w (.cells cs 46))
  have HL := Lib.hid hL
  clear hv' hN0 hL hl h2 ha0
  by_cases hlen : 10000 < bs.length
  · go_enter Try.func9, Try.ntmps9
    go_wp2_with (go_at_call 14; refine (works_c _).mono ?_; rintro e w2 ⟨rfl, hn⟩; have HN2 := Lib.hid hn; clear hn)
    go_ret
    exact ⟨rfl, (HN0.out.tr HN2.out).nb⟩
  · go_enter Try.func9, Try.ntmps9
    go_wp2_with (go_at_call 16; refine HS.out.mono ?_; rintro e w1 ⟨g, ws, rfl, hok, hrow, hn⟩; have HOk := Lib.hid hok; have HR1 := Lib.hid hrow; have HN1 := Lib.hid hn; clear hok hrow hn)
    refine (of_yes g 0 _ _ ws _ rfl (own_bytes HR1.out) HOk.out).mono ?_
    rintro e w2 ⟨b, g2, cap2, rfl, hi, hn⟩
    have HI := Lib.hid hi
    have HN2 := Lib.hid hn
    have HA2 := Lib.hid (hn.heap (HN1.out.heap HA.out id) id)
    obtain ⟨cs2, hc2⟩ : ∃ cs2, LineOf (lineSpec ws a) cs2 := ⟨_, lineOf _ (lineSpec_length _ _)⟩
    have hline := line_any hi a
    unfold lineV at hline
    rw [hc2.cells] at hline
    have HLine := Lib.hid hline
    have HC2 := Lib.hid hc2
    have HSet : Hid (∀ w, Img w1.heap.size w b g2 cap2 ws → Calls Try.prog 24 #[.pointer (some ⟨b, 0, none⟩), .int .u32 a, .agg cs] w fun e w' => e = .returned (.int .i64 (lineErr ws.length a)) ∧ Img w1.heap.size w' b g2 cap2 (setSpec ws a l) ∧ Only (fun k => k = g2) w w') := by
      intro w hi
      have hset := setline_any hi a l HL.out.len
      unfold lineV at hset
      rwa [HL.out.cells] at hset
    have HR2 := Lib.hid (hn.row HR1.out (by simp))
    have HB : Hid (w.heap.size < g2 ∧ g < g2) := by
      have h0 := HN1.out.size
      have h1 := row_lt HR1.out
      have h2 := hi.hg
      refine ⟨?_, by omega⟩
      simp only [World.size_alloc] at h0
      omega
    clear hi hn hline hc2
    have hr := okSize_range HOk.out
    obtain ⟨hr1, hr2⟩ := hr
    by_cases hge : ws.length / 16 ≤ a
    · have herr : lineErr ws.length a = 4 := by unfold lineErr; rw [if_pos hge]
      have hz : lineSpec ws a = zline := by unfold lineSpec; rw [if_pos hge]
      have hst : setSpec ws a l = ws := by unfold setSpec; rw [if_pos hge]
      rw [herr, hst] at HSet
      rw [herr] at HLine
      rw [hz] at HC2
      clear herr hst hz
      go_wp2_with (first | (go_at_call 13; refine (num_c _ _).mono ?_; rintro e w' ⟨rfl, rfl⟩) | (go_at_call 25; refine HLine.out.mono ?_; rintro e w3 ⟨rfl, hn⟩; have HN3 := Lib.hid hn; clear hn; have HS3 := Lib.hid (stored_line (w := w3) (cs := cs2) (z := #[.int .u8 0, .int .u8 0, .int .u8 0, .int .u8 0, .int .u8 0, .int .u8 0, .int .u8 0, .int .u8 0, .int .u8 0, .int .u8 0, .int .u8 0, .int .u8 0, .int .u8 0, .int .u8 0, .int .u8 0, .int .u8 0]))) | ((with_reducible refine wpList_store_row (o := ⟨none, _, _, _, _, _⟩) ?_ 46 (.tmp 12) (.tmp 36) ?_ w3.heap.size cs2 ?_ ?_ 46 _ HS3.out.1 HC2.out.info ?_ HC2.out.all ?_); rfl; rfl; rfl; rfl; exact HC2.out.size.symm; generalize World.setRow _ _ cs2 = w4 at *; have HA4 := Lib.hid (HS3.out.2.2.heap (HN3.out.heap HA2.out id) id)) | ((with_reducible refine wpList_load_g (o := ⟨some 40, _, _, _, _, _⟩) ?_ 46 (.tmp 7) ?_ w.heap.size ?_ 46 cs (0, 0) _ HA4.out Try.underlying46 ?_ HL.out.info ?_); rfl; rfl; rfl; rfl) | (go_at_call 24; refine (HSet.out _ ((HI.out.new HN3.out).new HS3.out.2.2)).mono ?_; rintro e w5 ⟨rfl, hi, hn⟩; have HI5 := Lib.hid hi; have HN5 := Lib.hid hn; clear hi hn))
      refine wp_region_facts (S := fun W => Img 0 W b g2 cap2 ws ∧ W.ownsRow 0 5 1 (.slice (some ⟨g, 0, none⟩) ws.length ws.length) ws.length (ws.map u8v) ∧ W.heap[w3.heap.size]? = some (.cells cs2 46 (0, 0))) New (FT (L10 b w3.heap.size ws cs2)) [12, 13, 14, 10, 9] 115 (by kernel_rfl) (by kernel_rfl) rfl new_re new_tr (Stab.ft ?_) ?_ ?_ ?_ ?_
      · unfold L10
        repeat (first | exact stab_nil | refine stab_is ?_ | refine ownsB_new ?_)
      · exact ⟨(HI5.out.new (new_dr _)).mono (Nat.zero_le _), row_mono (World.ownsRow.drew (HN5.out.row (HS3.out.2.2.row (HN3.out.row HR2.out (by simp)) (by simp)) (by intro k hk; simp [Value.ownBlock] at hk; have := HB.out.2; omega))) (Nat.zero_le _), HN5.out.heap HS3.out.2.1 (by have := HI.out.lt; have := HN3.out.size; omega)⟩
      · intro t ht
        simp only [List.mem_cons, List.not_mem_nil, or_false] at ht
        rcases ht with rfl | rfl | rfl | rfl | rfl
        · rfl
        · rfl
        · rfl
        · rfl
        · exact ⟨g, ws.length, rfl, row_mono (World.ownsRow.drew (HN5.out.row (HS3.out.2.2.row (HN3.out.row HR2.out (by simp)) (by simp)) (by intro k hk; simp [Value.ownBlock] at hk; have := HB.out.2; omega))) (Nat.zero_le _)⟩
      · refine ⟨?_, ?_, ?_, ?_, ?_, ?_, ?_, ?_, ?_, ?_, ?_, ?_, ?_, ?_, ?_, ?_, ?_, ?_, ?_, ?_, ?_, ?_, ?_, ?_, ?_, trivial⟩
        · exact fs_plain rfl (body_load new_re 46 12 w3.heap.size 46 cs2 (0, 0) _ rfl (fun _ _ h => h) (fun _ hs => hs.2.2) Try.underlying46 rfl HC2.out.info fun _ => rfl)
        · refine fs_plain rfl (body_val new_re fun aa ww hs hf => ?_)
          exact ⟨(.agg #[.int .u8 0, .int .u8 0, .int .u8 0, .int .u8 0, .int .u8 0, .int .u8 0, .int .u8 0, .int .u8 0, .int .u8 0, .int .u8 0, .int .u8 0, .int .u8 0, .int .u8 0, .int .u8 0, .int .u8 0, .int .u8 0]), by simp [go_sem], rfl⟩
        · exact fs_plain rfl (body_eqLine new_re 48 49 zline zline cs2 _ true rfl (fun _ _ h => h) (fun _ _ h => h) HC2.out zlineOf (by decide) fun _ => rfl)
        · exact fs_plain rfl (body_move new_re (t := 50) (.inl rfl) fun _ _ h => h)
        · exact fs_guard 51 rfl rfl (fun _ _ h => h) (body_move new_re (t := 13) (.inl rfl) fun _ _ h => h)
        · refine fs_guard 51 rfl rfl (fun _ _ h => h) (body_call fun aa ww hs hf => ?_)
          have h52 : aa.tmps[52]?.getD undef = (.int .i64 4) := hf 52 (by decide)
          refine ⟨13, #[.int .i64 4], by simp [go_sem, h52], ?_⟩
          exact (num_c 4 ww).mono fun e w'' ⟨he, hn⟩ => by subst hn; exact ⟨_, he, rfl, hs, new_re _⟩
        · refine fs_guard 51 rfl rfl (fun _ _ h => h) (body_val new_re fun aa ww hs hf => ?_)
          have h53 : aa.tmps[53]?.getD undef = (.int .i64 4) := hf 53 (by decide)
          exact ⟨(.bool true), by simp [go_sem, h53], rfl⟩
        · exact fs_plain rfl (body_pick new_re (c := 51) (x := 54) rfl (fun _ _ h => h) fun _ _ h => h)
        · exact fs_plain rfl (body_move new_re (t := 55) (.inl rfl) fun _ _ h => h)
        · exact fs_guard 56 rfl rfl (fun _ _ h => h) (body_move new_re (t := 14) (.inl rfl) fun _ _ h => h)
        · refine fs_guard 56 rfl rfl (fun _ _ h => h) (body_call fun aa ww hs hf => ?_)
          have h57 : aa.tmps[57]?.getD undef = (.int .i64 4) := hf 57 (by decide)
          refine ⟨13, #[.int .i64 4], by simp [go_sem, h57], ?_⟩
          exact (num_c 4 ww).mono fun e w'' ⟨he, hn⟩ => by subst hn; exact ⟨_, he, rfl, hs, new_re _⟩
        · refine fs_guard 56 rfl rfl (fun _ _ h => h) (body_val new_re fun aa ww hs hf => ?_)
          have h58 : aa.tmps[58]?.getD undef = (.int .i64 4) := hf 58 (by decide)
          exact ⟨(.bool true), by simp [go_sem, h58], rfl⟩
        · exact fs_plain rfl (body_pick new_re (c := 56) (x := 59) rfl (fun _ _ h => h) fun _ _ h => h)
        · exact fs_plain rfl (body_move new_re (t := 60) (.inl rfl) fun _ _ h => h)
        · exact fs_guard 61 rfl rfl (fun _ _ h => h) (body_move new_re (t := 10) (.inl rfl) fun _ _ h => h)
        · refine fs_guard 61 rfl rfl (fun _ _ h => h) (body_call fun aa ww hs hf => ?_)
          have h62 : aa.tmps[62]?.getD undef = (.pointer (some ⟨b, 0, none⟩)) := hf 62 (by decide)
          refine ⟨19, #[.pointer (some ⟨b, 0, none⟩)], by simp [go_sem, h62], ?_⟩
          exact (bytes_some hs.1).mono fun e w'' ⟨v, he, ho, hn⟩ => by obtain ⟨g, cap, rfl⟩ := row_some ho (by have := hs.1.pos; omega); exact ⟨_, he, ⟨g, cap, rfl, row_mono ho (Nat.zero_le _)⟩, ⟨hs.1.new hn, hn.row hs.2.1 (fun _ _ => id), hn.heap hs.2.2 id⟩, hn⟩
        · refine fs_guard 61 rfl rfl (fun _ _ h => h) (body_val new_re fun aa ww hs hf => ?_)
          have h63 : ownsB ws (aa.tmps[63]?.getD undef) ww := hf 63 (by decide)
          obtain ⟨gg, cc, hg1, hg2⟩ := h63
          rw [hg1] at hg2
          have hc := conv_own hg2
          exact ⟨(.string (str ws)), by simp [go_sem, hg1, hc], rfl⟩
        · exact fs_guard 61 rfl rfl (fun _ _ h => h) (body_move new_re (t := 9) (.inl rfl) fun _ _ h => h)
        · refine fs_guard 61 rfl rfl (fun _ _ h => h) (body_val new_re fun aa ww hs hf => ?_)
          have h65 : ownsB ws (aa.tmps[65]?.getD undef) ww := hf 65 (by decide)
          obtain ⟨gg, cc, hg1, hg2⟩ := h65
          rw [hg1] at hg2
          have hc := conv_own hg2
          exact ⟨(.string (str ws)), by simp [go_sem, hg1, hc], rfl⟩
        · refine fs_guard 61 rfl rfl (fun _ _ h => h) (body_val new_re fun aa ww hs hf => ?_)
          have h64 : aa.tmps[64]?.getD undef = (.string (str ws)) := hf 64 (by decide)
          have h66 : aa.tmps[66]?.getD undef = (.string (str ws)) := hf 66 (by decide)
          exact ⟨(.bool true), by simp [go_sem, h64, h66], rfl⟩
        · exact fs_plain rfl (body_pick new_re (c := 61) (x := 67) rfl (fun _ _ h => h) fun _ _ h => h)
        · exact fs_plain rfl (body_move new_re (t := 68) (.inl rfl) fun _ _ h => h)
        · refine fs_guard 69 rfl rfl (fun _ _ h => h) (body_call fun aa ww hs hf => ?_)
          refine ⟨14, #[], by simp [go_sem], ?_⟩
          exact (works_c ww).mono fun e w'' ⟨he, hn⟩ => ⟨_, he, rfl, ⟨hs.1.new hn, hn.row hs.2.1 (fun _ _ => id), hn.heap hs.2.2 id⟩, hn⟩
        · exact fs_plain rfl (body_pick new_re (c := 69) (x := 70) rfl (fun _ _ h => h) fun _ _ h => h)
        · exact fs_plain rfl (body_move new_re (t := 71) (.inr rfl) fun _ _ h => h)
      · intro a w hw
        go_wp2
        refine ⟨hw.defers, _, results_tmp rfl _ _ _, ?_⟩
        rw [show a.tmps.getD 8 undef = .bool true from hw.facts 24 8 rfl rfl]
        exact ⟨rfl, (((((((HN0.out.tr HN1.out).tr HN2.out).tr HN3.out).tr HS3.out.2.2).trans HN5.out (by intro i hi he; have := HB.out.1; omega)).tr (new_dr _)).tr hw.ext).nb⟩
    · have herr : lineErr ws.length a = 0 := by unfold lineErr; rw [if_neg hge]
      have hst : setSpec ws a l = ws.take (16 * a) ++ (l ++ ws.drop (16 * a + 16)) := by unfold setSpec; rw [if_neg hge]
      rw [herr] at HSet HLine
      clear herr
      obtain ⟨i0, hi, hz0, hz1, hz2⟩ := info_parts info5
      have Hi := Lib.hid (And.intro hi (And.intro hz0 (And.intro hz1 hz2)))
      have Hst := Lib.hid hst
      clear hi hz0 hz1 hz2 hst
      go_wp2_with (first | (go_at_call 13; refine (num_c _ _).mono ?_; rintro e w' ⟨rfl, rfl⟩) | (go_at_call 25; refine HLine.out.mono ?_; rintro e w3 ⟨rfl, hn⟩; have HN3 := Lib.hid hn; clear hn; have HS3 := Lib.hid (stored_line (w := w3) (cs := cs2) (z := #[.int .u8 0, .int .u8 0, .int .u8 0, .int .u8 0, .int .u8 0, .int .u8 0, .int .u8 0, .int .u8 0, .int .u8 0, .int .u8 0, .int .u8 0, .int .u8 0, .int .u8 0, .int .u8 0, .int .u8 0, .int .u8 0]))) | ((with_reducible refine wpList_store_row (o := ⟨none, _, _, _, _, _⟩) ?_ 46 (.tmp 12) (.tmp 36) ?_ w3.heap.size cs2 ?_ ?_ 46 _ HS3.out.1 HC2.out.info ?_ HC2.out.all ?_); rfl; rfl; rfl; rfl; exact HC2.out.size.symm; generalize World.setRow _ _ cs2 = w4 at *; have HA4 := Lib.hid (HS3.out.2.2.heap (HN3.out.heap HA2.out id) id)) | ((with_reducible refine wpList_load_g (o := ⟨some 40, _, _, _, _, _⟩) ?_ 46 (.tmp 7) ?_ w.heap.size ?_ 46 cs (0, 0) _ HA4.out Try.underlying46 ?_ HL.out.info ?_); rfl; rfl; rfl; rfl) | (go_at_call 24; refine (HSet.out _ ((HI.out.new HN3.out).new HS3.out.2.2)).mono ?_; rintro e w5 ⟨rfl, hi, hn⟩; have HI5 := Lib.hid hi; have HN5 := Lib.hid hn; clear hi hn; have HA5 := Lib.hid (HN5.out.heap HA4.out (by have := HB.out.1; omega)); have HR5 := Lib.hid (HN5.out.row (HS3.out.2.2.row (HN3.out.row HR2.out (by simp)) (by simp)) (by intro k hk; simp [Value.ownBlock] at hk; have := HB.out.2; omega)); have HCl := Lib.hid (app_cells HR5.out)) | (at_builtin; refine wpList_append_grows _ rfl _ _ 30 rfl 5 i0 (.int .u8 0) 1 1 Try.underlying30 Hi.out.1 Hi.out.2.1 Hi.out.2.2.1 Hi.out.2.2.2 rfl (by decide) (some ⟨w5.heap.size, 0, none⟩) 0 0 [] rfl (by simp) rfl (by simp) ⟨g, 0, none⟩ ws.length ws.length (ws.map u8v) rfl HCl.out.1 HCl.out.2 (u8v_one _) (by omega) (by unfold maxLen; omega) (by omega) ?_; intro v1 w6 hown hgrow; rw [Nat.zero_add, List.nil_append] at hown; obtain ⟨gw, capw, rfl⟩ := row_some hown (by omega); have HO6 := Lib.hid (row_mono hown (by simp : w5.heap.size ≤ _)); have HG6 := Lib.hid (((Only.refl (fun _ => False) w5).alloc (.cells #[] 5)).tr (Only.ofGrown hgrow (by simp))); clear hown hgrow))
      go_loopw [16] (fun i wr => ∃ k : Nat, k ≤ 16 ∧ i = .int .i64 k ∧ wr.ownsRow w5.heap.size 5 1 (.slice (some ⟨gw, 0, none⟩) ws.length capw) ws.length ((ws.take (16 * a) ++ (l.take k ++ ws.drop (16 * a + k))).map u8v) ∧ New w5 wr) (fun i _ => 16 - (intOf i).toNat)
      case atStart =>
        refine ⟨0, by omega, rfl, ?_, HG6.out⟩
        rw [List.take_zero, List.nil_append, Nat.add_zero, List.take_append_drop]
        exact HO6.out
      case round =>
        obtain ⟨k, hk, rfl, hrw, hnw⟩ := hrel
        have HRW := Lib.hid hrw
        have HNW := Lib.hid hnw
        clear hrw hnw
        by_cases hlt : k < 16
        · have hkl : k < l.length := by have := HL.out.len; omega
          have hcl : wr.cell? ⟨w.heap.size, k, none⟩ = some (.int .u8 (l[k].toNat : Int)) := by
            rw [head_cell (HNW.out.heap HA5.out id), ← HL.out.cells]
            simpa using get_u8v hkl
          have hfg : wr.frozen? ⟨gw, 16 * a + k, none⟩ = false := HRW.out.frozenAt _
          have hcg : ∃ u, wr.cell? ⟨gw, 16 * a + k, none⟩ = some u := by
            rw [row_cell HRW.out (by omega)]
            exact ⟨_, List.getElem?_eq_getElem (by have := HRW.out.1; omega)⟩
          obtain ⟨u0, hcg⟩ := hcg
          have HSt := Lib.hid (HRW.out.stored (16 * a + k) (u8v l[k]))
          have HSp := Lib.hid (spl_step ws l a k HL.out.len hlt (by omega))
          have hb := l[k].toNat_lt
          go_wp2
          go_roundw
          case rel =>
            refine ⟨k + 1, by omega, by go_num, ?_, HNW.out.setCell (fun h => absurd h (by have := row_lt HRW.out; simp; omega)) _⟩
            rw [← HSp.out, List.map_set]
            exact HSt.out.1
          case measure => simp [intOf]; omega
        · obtain rfl : k = 16 := by omega
          have HRW' : Hid (wr.ownsRow w5.heap.size 5 1 (.slice (some ⟨gw, 0, none⟩) ws.length capw) ws.length ((setSpec ws a l).map u8v)) := by
            have := HRW.out
            rw [List.take_of_length_le (l := l) (by have := HL.out.len; omega), ← Hst.out] at this
            exact this
          have hsl := setSpec_length ws a l HL.out.len
          go_wp2
          refine wp_region_facts (S := fun W => Img 0 W b g2 cap2 (setSpec ws a l) ∧ W.ownsRow 0 5 1 (.slice (some ⟨g, 0, none⟩) ws.length ws.length) ws.length (ws.map u8v) ∧ W.heap[w3.heap.size]? = some (.cells cs2 46 (0, 0))) New (FT (L16 b g w3.heap.size a ws l cs2)) [12, 9, 2, 13, 14, 10, 15] 115 (by kernel_rfl) (by kernel_rfl) rfl new_re new_tr (Stab.ft ?_) ?_ ?_ ?_ ?_
          · unfold L16
            repeat (first | exact stab_nil | refine stab_is ?_ | refine ownsB_new ?_)
          · exact ⟨((HI5.out.new HNW.out).new (new_dr _)).mono (Nat.zero_le _), row_mono (World.ownsRow.drew (HNW.out.row HR5.out (by simp))) (Nat.zero_le _), HNW.out.heap (HN5.out.heap HS3.out.2.1 (by have := HI.out.lt; have := HN3.out.size; omega)) id⟩
          · intro t ht
            simp only [List.mem_cons, List.not_mem_nil, or_false] at ht
            rcases ht with rfl | rfl | rfl | rfl | rfl | rfl | rfl
            · rfl
            · rfl
            · rfl
            · rfl
            · rfl
            · rfl
            · exact ⟨gw, capw, by rw [hsl]; rfl, by rw [hsl]; exact row_mono (World.ownsRow.drew HRW'.out) (Nat.zero_le _)⟩
          · refine ⟨?_, ?_, ?_, ?_, ?_, ?_, ?_, ?_, ?_, ?_, ?_, ?_, ?_, ?_, ?_, ?_, ?_, ?_, ?_, ?_, ?_, ?_, ?_, ?_, ?_, ?_, ?_, trivial⟩
            · exact fs_plain rfl (body_load new_re 46 12 w3.heap.size 46 cs2 (0, 0) _ rfl (fun _ _ h => h) (fun _ hs => hs.2.2) Try.underlying46 rfl HC2.out.info fun _ => rfl)
            · exact fs_plain rfl (body_move new_re (t := 9) (.inl rfl) fun _ _ h => h)
            · exact fs_plain rfl (body_move new_re (t := 2) (.inl rfl) fun _ _ h => h)
            · refine fs_plain rfl (body_call fun aa ww hs hf => ?_)
              have h90 : aa.tmps[90]?.getD undef = (.slice (some ⟨g, 0, none⟩) ws.length ws.length) := hf 90 (by decide)
              have h91 : aa.tmps[91]?.getD undef = (.int .u32 a) := hf 91 (by decide)
              refine ⟨26, #[.slice (some ⟨g, 0, none⟩) ws.length ws.length, .int .u32 a], by simp [go_sem, h90, h91], ?_⟩
              refine (refline_c g 0 ws.length ws.length a (lineSpec ws a) ww (lineSpec_length _ _) (by omega) (by omega) ?_).mono fun e w'' ⟨he, hn⟩ => ?_
              · intro k hk
                rw [lineSpec_length] at hk
                rw [Nat.zero_add, row_cell hs.2.1 (by omega), get_u8v (by omega)]
                unfold lineSpec
                simp [hge]
              · unfold lineV at he
                rw [HC2.out.cells] at he
                exact ⟨_, he, rfl, ⟨hs.1.new hn, hn.row hs.2.1 (fun _ _ => id), hn.heap hs.2.2 id⟩, hn⟩
            · exact fs_plain rfl (body_eqLine new_re 89 92 _ _ cs2 cs2 true rfl (fun _ _ h => h) (fun _ _ h => h) HC2.out HC2.out (by simp) fun _ => rfl)
            · exact fs_plain rfl (body_move new_re (t := 93) (.inl rfl) fun _ _ h => h)
            · exact fs_guard 94 rfl rfl (fun _ _ h => h) (body_move new_re (t := 13) (.inl rfl) fun _ _ h => h)
            · refine fs_guard 94 rfl rfl (fun _ _ h => h) (body_call fun aa ww hs hf => ?_)
              have h95 : aa.tmps[95]?.getD undef = (.int .i64 0) := hf 95 (by decide)
              refine ⟨13, #[.int .i64 0], by simp [go_sem, h95], ?_⟩
              exact (num_c 0 ww).mono fun e w'' ⟨he, hn⟩ => by subst hn; exact ⟨_, he, rfl, hs, new_re _⟩
            · refine fs_guard 94 rfl rfl (fun _ _ h => h) (body_val new_re fun aa ww hs hf => ?_)
              have h96 : aa.tmps[96]?.getD undef = (.int .i64 0) := hf 96 (by decide)
              exact ⟨(.bool true), by simp [go_sem, h96], rfl⟩
            · exact fs_plain rfl (body_pick new_re (c := 94) (x := 97) rfl (fun _ _ h => h) fun _ _ h => h)
            · exact fs_plain rfl (body_move new_re (t := 98) (.inl rfl) fun _ _ h => h)
            · exact fs_guard 99 rfl rfl (fun _ _ h => h) (body_move new_re (t := 14) (.inl rfl) fun _ _ h => h)
            · refine fs_guard 99 rfl rfl (fun _ _ h => h) (body_call fun aa ww hs hf => ?_)
              have h100 : aa.tmps[100]?.getD undef = (.int .i64 0) := hf 100 (by decide)
              refine ⟨13, #[.int .i64 0], by simp [go_sem, h100], ?_⟩
              exact (num_c 0 ww).mono fun e w'' ⟨he, hn⟩ => by subst hn; exact ⟨_, he, rfl, hs, new_re _⟩
            · refine fs_guard 99 rfl rfl (fun _ _ h => h) (body_val new_re fun aa ww hs hf => ?_)
              have h101 : aa.tmps[101]?.getD undef = (.int .i64 0) := hf 101 (by decide)
              exact ⟨(.bool true), by simp [go_sem, h101], rfl⟩
            · exact fs_plain rfl (body_pick new_re (c := 99) (x := 102) rfl (fun _ _ h => h) fun _ _ h => h)
            · exact fs_plain rfl (body_move new_re (t := 103) (.inl rfl) fun _ _ h => h)
            · exact fs_guard 104 rfl rfl (fun _ _ h => h) (body_move new_re (t := 10) (.inl rfl) fun _ _ h => h)
            · refine fs_guard 104 rfl rfl (fun _ _ h => h) (body_call fun aa ww hs hf => ?_)
              have h105 : aa.tmps[105]?.getD undef = (.pointer (some ⟨b, 0, none⟩)) := hf 105 (by decide)
              refine ⟨19, #[.pointer (some ⟨b, 0, none⟩)], by simp [go_sem, h105], ?_⟩
              exact (bytes_some hs.1).mono fun e w'' ⟨v, he, ho, hn⟩ => by obtain ⟨g, cap, rfl⟩ := row_some ho (by have := hs.1.pos; omega); exact ⟨_, he, ⟨g, cap, rfl, row_mono ho (Nat.zero_le _)⟩, ⟨hs.1.new hn, hn.row hs.2.1 (fun _ _ => id), hn.heap hs.2.2 id⟩, hn⟩
            · refine fs_guard 104 rfl rfl (fun _ _ h => h) (body_val new_re fun aa ww hs hf => ?_)
              have h106 : ownsB (setSpec ws a l) (aa.tmps[106]?.getD undef) ww := hf 106 (by decide)
              obtain ⟨gg, cc, hg1, hg2⟩ := h106
              rw [hg1] at hg2
              have hc := conv_own hg2
              exact ⟨(.string (str (setSpec ws a l))), by simp [go_sem, hg1, hc], rfl⟩
            · exact fs_guard 104 rfl rfl (fun _ _ h => h) (body_move new_re (t := 15) (.inl rfl) fun _ _ h => h)
            · refine fs_guard 104 rfl rfl (fun _ _ h => h) (body_val new_re fun aa ww hs hf => ?_)
              have h108 : ownsB (setSpec ws a l) (aa.tmps[108]?.getD undef) ww := hf 108 (by decide)
              obtain ⟨gg, cc, hg1, hg2⟩ := h108
              rw [hg1] at hg2
              have hc := conv_own hg2
              exact ⟨(.string (str (setSpec ws a l))), by simp [go_sem, hg1, hc], rfl⟩
            · refine fs_guard 104 rfl rfl (fun _ _ h => h) (body_val new_re fun aa ww hs hf => ?_)
              have h107 : aa.tmps[107]?.getD undef = (.string (str (setSpec ws a l))) := hf 107 (by decide)
              have h109 : aa.tmps[109]?.getD undef = (.string (str (setSpec ws a l))) := hf 109 (by decide)
              exact ⟨(.bool true), by simp [go_sem, h107, h109], rfl⟩
            · exact fs_plain rfl (body_pick new_re (c := 104) (x := 110) rfl (fun _ _ h => h) fun _ _ h => h)
            · exact fs_plain rfl (body_move new_re (t := 111) (.inl rfl) fun _ _ h => h)
            · refine fs_guard 112 rfl rfl (fun _ _ h => h) (body_call fun aa ww hs hf => ?_)
              refine ⟨14, #[], by simp [go_sem], ?_⟩
              exact (works_c ww).mono fun e w'' ⟨he, hn⟩ => ⟨_, he, rfl, ⟨hs.1.new hn, hn.row hs.2.1 (fun _ _ => id), hn.heap hs.2.2 id⟩, hn⟩
            · exact fs_plain rfl (body_pick new_re (c := 112) (x := 113) rfl (fun _ _ h => h) fun _ _ h => h)
            · exact fs_plain rfl (body_move new_re (t := 114) (.inr rfl) fun _ _ h => h)
          · intro a w hw
            go_wp2
            refine ⟨hw.defers, _, results_tmp rfl _ _ _, ?_⟩
            rw [show a.tmps.getD 8 undef = .bool true from hw.facts 26 8 rfl rfl]
            exact ⟨rfl, ((((((((HN0.out.tr HN1.out).tr HN2.out).tr HN3.out).tr HS3.out.2.2).trans HN5.out (by intro i hi he; have := HB.out.1; omega)).tr HNW.out).tr (new_dr _)).tr hw.ext).nb⟩
end Go.Proofs.Ytglepciddhbmbaa
