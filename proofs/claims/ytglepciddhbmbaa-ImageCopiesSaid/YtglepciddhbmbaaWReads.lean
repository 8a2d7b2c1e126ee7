/-
  The walk of ImageReads.
-/
import Derived.Test.YtglepciddhbmbaaArgOpen
import Derived.Test.YtglepciddhbmbaaWSingle
import Derived.Test.YtglepciddhbmbaaRegionFacts
namespace Go.Proofs.Ytglepciddhbmbaa
open Go.RowKit

theorem conv_own {w : World} {base : Nat} {g cap n : Nat} {bs : List UInt8} (h : w.ownsRow base 5 1 (.slice (some ⟨g, 0, none⟩) n cap) n (bs.map u8v)) : (convert 30 9 (.slice (some ⟨g, 0, none⟩) n cap)).run Try.prog w = .ok (.string (str bs)) w :=
  conv_bytes w g 0 n cap bs (by have := h.1; simpa using this.symm) (sees_cells h)

theorem new_tr : ∀ a b c : World, New a b → New b c → New a c := fun _ _ _ h k => h.tr k
theorem new_re : ∀ a : World, New a a := fun a => Only.refl _ a
theorem new_dr (w : World) : New w w.drew := (Only.refl _ w).drew
/-- The value is a slice that owns these bytes. -/
def ownsB (bs : List UInt8) (v : Value) (w : World) : Prop := ∃ g cap, v = .slice (some ⟨g, 0, none⟩) bs.length cap ∧ w.ownsRow 0 5 1 v bs.length (bs.map u8v)
theorem ownsB_new {t : Tmp} {bs : List UInt8} {l : List (Tmp × (Value → World → Prop))} (h : Stab New l) : Stab New ((t, ownsB bs) :: l) :=
  ⟨fun _ _ _ ⟨g, cap, h1, h2⟩ hx => ⟨g, cap, h1, hx.row h2 fun _ _ => id⟩, h⟩

def T13 (b : Nat) (ws : List UInt8) : List (Tmp × (Value → World → Prop)) :=
  [(11, is (.int .u32 0)), (8, is (.pointer (some ⟨b, 0, none⟩))), (7, ownsB ws), (64, is (.int .u32 0)), (65, is (.bool true)), (66, is (.bool true)), (67, is (.pointer (some ⟨b, 0, none⟩))), (68, ownsB ws), (69, is (.string (str ws))), (70, ownsB ws), (71, is (.string (str ws))), (72, is (.bool true)), (73, is (.bool true)), (74, is (.bool true)), (75, is (.bool true)), (76, is (.bool true)), (6, is (.bool true))]

def T14 (b g B a m x : Nat) (ws : List UInt8) : List (Tmp × (Value → World → Prop)) :=
  [(11, is (.int .u32 (le ((ws.drop a).take m) : Int))), (7, is (.slice (some ⟨g, 0, none⟩) ws.length ws.length)), (5, is (.pointer (some ⟨B, 0, none⟩))), (8, is (.pointer (some ⟨b, 0, none⟩))), (77, is (.int .u32 (le ((ws.drop a).take m) : Int))), (78, is (.slice (some ⟨g, 0, none⟩) ws.length ws.length)), (79, is (.pointer (some ⟨B, 0, none⟩))), (80, is (.int .u32 a)), (81, is (.pointer (some ⟨B, 1, none⟩))), (82, is (.int .i64 m)), (83, is (.int .u32 (le ((ws.drop a).take m) : Int))), (84, is (.bool true)), (85, is (.bool true)), (86, is (.pointer (some ⟨b, 0, none⟩))), (87, ownsB (wr ws a m x)), (88, is (.string (str (wr ws a m x)))), (89, is (.slice (some ⟨g, 0, none⟩) ws.length ws.length)), (90, is (.pointer (some ⟨B, 0, none⟩))), (91, is (.int .u32 a)), (92, is (.pointer (some ⟨B, 1, none⟩))), (93, is (.int .i64 m)), (94, is (.pointer (some ⟨B, 2, none⟩))), (95, is (.int .u32 x)), (96, ownsB (wr ws a m x)), (97, is (.string (str (wr ws a m x)))), (98, is (.bool true)), (99, is (.bool true)), (100, is (.bool true)), (101, is (.bool true)), (102, is (.bool true)), (6, is (.bool true))]

set_option maxRecDepth 100000 in
set_option maxHeartbeats 2000000 in
theorem walk_ImageReads (w : World) (v : Value) (hv : ∃ bs, ByteArg w v bs) (wide : Int) (_h1 : (Lit.int .i64 wide).wf = true) (v2 : Value) (h2 : AccArg v2) :
    Calls Try.prog 6 #[v, .int .i64 wide, v2] w fun e w' => e = .returned (.bool true) ∧ Below w.heap.size w w' := by
  obtain ⟨bs, hv⟩ := hv
  obtain ⟨a, n, x, ha, hx, rfl⟩ := h2
  have hN0 : New w (w.alloc (.cells #[.int .u32 a, .int .i64 n, .int .u32 x] 40)) := (Only.refl _ w).alloc _
  have hv' : ByteArg (w.alloc (.cells #[.int .u32 a, .int .i64 n, .int .u32 x] 40)) v bs := by
    obtain ⟨va, cap, h1, h2, h3⟩ := hv
    refine ⟨va, cap, h1, h2, fun h => ?_⟩
    obtain ⟨b, o, h4, h5⟩ := h3 h
    exact ⟨b, o, h4, fun j u hj => hN0.cell (h5 j u hj) id⟩
  have HS := Lib.hid (sized_c v bs wide _ hv')
  have HN0 := Lib.hid hN0
  obtain ⟨va, cap, rfl, hm, _⟩ := hv
  unfold maxLen at hm
  have hA := Go.heap_alloc_new w (.cells #[.int .u32 a, .int .i64 n, .int .u32 x] 40)
  have HA := Lib.hid hA
  clear hv' hN0 hA
  by_cases hlen : 10000 < bs.length
  · go_enter Try.func6, Try.ntmps6
    go_wp2_with (go_at_call 14; refine (works_c _).mono ?_; rintro e w2 ⟨rfl, hn⟩; have HN2 := Lib.hid hn; clear hn)
    go_ret
    exact ⟨rfl, (HN0.out.tr HN2.out).nb⟩
  · go_enter Try.func6, Try.ntmps6
    go_wp2_with (go_at_call 16; refine HS.out.mono ?_; rintro e w1 ⟨g, ws, rfl, hok, hrow, hn⟩; have HOk := Lib.hid hok; have HR1 := Lib.hid hrow; have HN1 := Lib.hid hn; clear hok hrow hn)
    refine (of_yes g 0 _ _ ws _ rfl (own_bytes HR1.out) HOk.out).mono ?_
    rintro e w2 ⟨b, g2, cap2, rfl, hi, hn⟩
    have HI := Lib.hid hi
    have HN2 := Lib.hid hn
    clear hi hn
    have hA2 := HN2.out.heap (HN1.out.heap HA.out id) id
    have c0 : w2.cell? ⟨w.heap.size, 0, none⟩ = some (.int .u32 a) := by rw [head_cell hA2]; rfl
    have c1 : w2.cell? ⟨w.heap.size, 1, none⟩ = some (.int .i64 n) := by rw [head_cell hA2]; rfl
    have HA2 := Lib.hid hA2
    clear hA2
    have hr := okSize_range HOk.out
    obtain ⟨hr1, hr2⟩ := hr
    go_wp2_with (first | (go_at_call 13; refine (num_c _ _).mono ?_; rintro e w' ⟨rfl, rfl⟩) | (go_at_call 20; refine (refused_c _ _ _ a n ha (by omega) _).mono ?_; rintro e w' ⟨rfl, rfl⟩))
    refine (read_any HI.out a ha n).mono ?_
    rintro e w3 ⟨rfl, hn⟩
    have HN3 := Lib.hid hn
    clear hn
    have hA3 := HN3.out.heap HA2.out id
    have d0 : w3.cell? ⟨w.heap.size, 0, none⟩ = some (.int .u32 a) := by rw [head_cell hA3]; rfl
    have d1 : w3.cell? ⟨w.heap.size, 1, none⟩ = some (.int .i64 n) := by rw [head_cell hA3]; rfl
    have d2 : w3.cell? ⟨w.heap.size, 2, none⟩ = some (.int .u32 x) := by rw [head_cell hA3]; rfl
    have HA3 := Lib.hid hA3
    clear hA3 c0 c1
    by_cases hacc : accErr ws.length a n = 0
    · obtain ⟨hw3, hmm, hlt⟩ := accErr_zero hacc
      obtain ⟨m, rfl⟩ := Int.eq_ofNat_of_zero_le (show 0 ≤ n by omega)
      have hr : rdSpec ws a m = le ((ws.drop a).take m) := by rw [rdSpec, if_pos hacc]; simp
      have hfit : a + m ≤ ws.length := by
        have := (okSize_mul HOk.out).2
        rw [Int.toNat_natCast] at hmm
        have h3 : m = 1 ∨ m = 2 ∨ m = 4 := by omega
        rcases h3 with rfl | rfl | rfl <;> omega
      have hm4 : m ≤ 4 := by omega
      have HW := Lib.hid (write_yes (HI.out.new HN3.out) a m x hacc)
      rw [hacc, hr]
      clear hr hacc hw3 hmm
      go_wp2_with fail
      refine HW.out.mono ?_
      rintro e w4 ⟨rfl, hi, hn⟩
      rw [Int.toNat_natCast] at hi
      have hlw := wr_length ws a m x hfit
      have HN4 := Lib.hid hn
      have hgr := row_lt HR1.out
      have hb2 := HI.out.hb
      have hg2 := HI.out.hg
      have HS4 : Hid (Img 0 w4 b g2 cap2 (wr ws a m x) ∧ w4.ownsRow 0 5 1 (.slice (some ⟨g, 0, none⟩) ws.length ws.length) ws.length (ws.map u8v) ∧ w4.heap[w.heap.size]? = some (.cells #[.int .u32 a, .int .i64 m, .int .u32 x] 40 (0, 0))) := by
        refine ⟨hi.mono (Nat.zero_le _), row_mono (hn.row (HN3.out.row (HN2.out.row HR1.out (by simp)) (by simp)) ?_) (Nat.zero_le _), hn.heap HA3.out ?_⟩
        · intro k hk
          simp [Value.ownBlock] at hk
          omega
        · have h1 := (HN1.out.lt (show w.heap.size < _ from (Array.getElem?_eq_some_iff.1 HA.out).1))
          omega
      clear hi hn d0 d1 d2 hgr hg2 hb2
      go_wp2_with (first | (go_at_call 13; refine (num_c _ _).mono ?_; rintro e w' ⟨rfl, rfl⟩))
      refine wp_region_facts (S := fun W => Img 0 W b g2 cap2 (wr ws a m x) ∧ W.ownsRow 0 5 1 (.slice (some ⟨g, 0, none⟩) ws.length ws.length) ws.length (ws.map u8v) ∧ W.heap[w.heap.size]? = some (.cells #[.int .u32 a, .int .i64 m, .int .u32 x] 40 (0, 0))) New (FT (T14 b g w.heap.size a m x ws)) [11, 7, 5, 8] 103 (by kernel_rfl) (by kernel_rfl) rfl new_re new_tr (Stab.ft ?_) ?_ ?_ ?_ ?_
      · unfold T14
        repeat (first | exact stab_nil | refine stab_is ?_ | refine ownsB_new ?_)
      · exact ⟨HS4.out.1.new (new_dr _), HS4.out.2.1.drew, HS4.out.2.2⟩
      · intro t ht
        simp only [List.mem_cons, List.not_mem_nil, or_false] at ht
        rcases ht with rfl | rfl | rfl | rfl
        · rfl
        · rfl
        · rfl
        · rfl
      · refine ⟨?_, ?_, ?_, ?_, ?_, ?_, ?_, ?_, ?_, ?_, ?_, ?_, ?_, ?_, ?_, ?_, ?_, ?_, ?_, ?_, ?_, ?_, ?_, ?_, ?_, ?_, ?_, trivial⟩
        · exact fs_plain rfl (body_move new_re (t := 11) (.inl rfl) fun _ _ h => h)
        · exact fs_plain rfl (body_move new_re (t := 7) (.inl rfl) fun _ _ h => h)
        · refine fs_plain rfl (body_val new_re fun aa ww hs hf => ?_)
          have h5 : aa.tmps[5]?.getD undef = (.pointer (some ⟨w.heap.size, 0, none⟩)) := hf 5 (by decide)
          exact ⟨(.pointer (some ⟨w.heap.size, 0, none⟩)), by simp [go_sem, h5], rfl⟩
        · refine fs_plain rfl (body_val new_re fun aa ww hs hf => ?_)
          have h79 : aa.tmps[79]?.getD undef = (.pointer (some ⟨w.heap.size, 0, none⟩)) := hf 79 (by decide)
          have hc := head_cell hs.2.2 0
          exact ⟨(.int .u32 a), by simp [go_sem, h79, hc], rfl⟩
        · refine fs_plain rfl (body_val new_re fun aa ww hs hf => ?_)
          have h5 : aa.tmps[5]?.getD undef = (.pointer (some ⟨w.heap.size, 0, none⟩)) := hf 5 (by decide)
          exact ⟨(.pointer (some ⟨w.heap.size, 1, none⟩)), by simp [go_sem, h5], rfl⟩
        · refine fs_plain rfl (body_val new_re fun aa ww hs hf => ?_)
          have h81 : aa.tmps[81]?.getD undef = (.pointer (some ⟨w.heap.size, 1, none⟩)) := hf 81 (by decide)
          have hc := head_cell hs.2.2 1
          exact ⟨(.int .i64 m), by simp [go_sem, h81, hc], rfl⟩
        · refine fs_plain rfl (body_call fun aa ww hs hf => ?_)
          have h78 : aa.tmps[78]?.getD undef = (.slice (some ⟨g, 0, none⟩) ws.length ws.length) := hf 78 (by decide)
          have h80 : aa.tmps[80]?.getD undef = (.int .u32 a) := hf 80 (by decide)
          have h82 : aa.tmps[82]?.getD undef = (.int .i64 m) := hf 82 (by decide)
          refine ⟨22, #[.slice (some ⟨g, 0, none⟩) ws.length ws.length, .int .u32 a, .int .i64 m], by simp [go_sem, h78, h80, h82], ?_⟩
          refine (refread_c g 0 ws.length ws.length a m ((ws.drop a).take m) ww ha (by simp; omega) hm4 hfit (by omega) ?_).mono fun e w'' ⟨he, hn⟩ => ?_
          · intro k hk
            have hk2 : a + k < ws.length := by simp at hk; omega
            rw [Nat.zero_add, row_cell hs.2.1 (by omega), get_u8v hk2]
            simp
          · subst hn; exact ⟨_, he, rfl, hs, new_re _⟩
        · refine fs_plain rfl (body_val new_re fun aa ww hs hf => ?_)
          have h77 : aa.tmps[77]?.getD undef = (.int .u32 (le ((ws.drop a).take m) : Int)) := hf 77 (by decide)
          have h83 : aa.tmps[83]?.getD undef = (.int .u32 (le ((ws.drop a).take m) : Int)) := hf 83 (by decide)
          exact ⟨(.bool true), by simp [go_sem, h77, h83], rfl⟩
        · exact fs_plain rfl (body_move new_re (t := 84) (.inl rfl) fun _ _ h => h)
        · exact fs_guard 85 rfl rfl (fun _ _ h => h) (body_move new_re (t := 8) (.inl rfl) fun _ _ h => h)
        · refine fs_guard 85 rfl rfl (fun _ _ h => h) (body_call fun aa ww hs hf => ?_)
          have h86 : aa.tmps[86]?.getD undef = (.pointer (some ⟨b, 0, none⟩)) := hf 86 (by decide)
          refine ⟨19, #[.pointer (some ⟨b, 0, none⟩)], by simp [go_sem, h86], ?_⟩
          exact (bytes_some hs.1).mono fun e w'' ⟨v, he, ho, hn⟩ => by obtain ⟨g, cap, rfl⟩ := row_some ho (by have := hs.1.pos; omega); exact ⟨_, he, ⟨g, cap, rfl, row_mono ho (Nat.zero_le _)⟩, ⟨hs.1.new hn, hn.row hs.2.1 (fun _ _ => id), hn.heap hs.2.2 id⟩, hn⟩
        · refine fs_guard 85 rfl rfl (fun _ _ h => h) (body_val new_re fun aa ww hs hf => ?_)
          have h87 : ownsB (wr ws a m x) (aa.tmps[87]?.getD undef) ww := hf 87 (by decide)
          obtain ⟨gg, cc, hg1, hg2⟩ := h87
          rw [hg1] at hg2
          have hc := conv_own hg2
          exact ⟨(.string (str (wr ws a m x))), by simp [go_sem, hg1, hc], rfl⟩
        · exact fs_guard 85 rfl rfl (fun _ _ h => h) (body_move new_re (t := 7) (.inl rfl) fun _ _ h => h)
        · refine fs_guard 85 rfl rfl (fun _ _ h => h) (body_val new_re fun aa ww hs hf => ?_)
          have h5 : aa.tmps[5]?.getD undef = (.pointer (some ⟨w.heap.size, 0, none⟩)) := hf 5 (by decide)
          exact ⟨(.pointer (some ⟨w.heap.size, 0, none⟩)), by simp [go_sem, h5], rfl⟩
        · refine fs_guard 85 rfl rfl (fun _ _ h => h) (body_val new_re fun aa ww hs hf => ?_)
          have h90 : aa.tmps[90]?.getD undef = (.pointer (some ⟨w.heap.size, 0, none⟩)) := hf 90 (by decide)
          have hc := head_cell hs.2.2 0
          exact ⟨(.int .u32 a), by simp [go_sem, h90, hc], rfl⟩
        · refine fs_guard 85 rfl rfl (fun _ _ h => h) (body_val new_re fun aa ww hs hf => ?_)
          have h5 : aa.tmps[5]?.getD undef = (.pointer (some ⟨w.heap.size, 0, none⟩)) := hf 5 (by decide)
          exact ⟨(.pointer (some ⟨w.heap.size, 1, none⟩)), by simp [go_sem, h5], rfl⟩
        · refine fs_guard 85 rfl rfl (fun _ _ h => h) (body_val new_re fun aa ww hs hf => ?_)
          have h92 : aa.tmps[92]?.getD undef = (.pointer (some ⟨w.heap.size, 1, none⟩)) := hf 92 (by decide)
          have hc := head_cell hs.2.2 1
          exact ⟨(.int .i64 m), by simp [go_sem, h92, hc], rfl⟩
        · refine fs_guard 85 rfl rfl (fun _ _ h => h) (body_val new_re fun aa ww hs hf => ?_)
          have h5 : aa.tmps[5]?.getD undef = (.pointer (some ⟨w.heap.size, 0, none⟩)) := hf 5 (by decide)
          exact ⟨(.pointer (some ⟨w.heap.size, 2, none⟩)), by simp [go_sem, h5], rfl⟩
        · refine fs_guard 85 rfl rfl (fun _ _ h => h) (body_val new_re fun aa ww hs hf => ?_)
          have h94 : aa.tmps[94]?.getD undef = (.pointer (some ⟨w.heap.size, 2, none⟩)) := hf 94 (by decide)
          have hc := head_cell hs.2.2 2
          exact ⟨(.int .u32 x), by simp [go_sem, h94, hc], rfl⟩
        · refine fs_guard 85 rfl rfl (fun _ _ h => h) (body_call fun aa ww hs hf => ?_)
          have h89 : aa.tmps[89]?.getD undef = (.slice (some ⟨g, 0, none⟩) ws.length ws.length) := hf 89 (by decide)
          have h91 : aa.tmps[91]?.getD undef = (.int .u32 a) := hf 91 (by decide)
          have h93 : aa.tmps[93]?.getD undef = (.int .i64 m) := hf 93 (by decide)
          have h95 : aa.tmps[95]?.getD undef = (.int .u32 x) := hf 95 (by decide)
          refine ⟨23, #[.slice (some ⟨g, 0, none⟩) ws.length ws.length, .int .u32 a, .int .i64 m, .int .u32 x], by simp [go_sem, h89, h91, h93, h95], ?_⟩
          refine (refwrite_c g 0 ws.length ws.length a m x ws ww rfl (by omega) (by omega) hm4 hfit hx (sees_cells hs.2.1)).mono fun e w'' ⟨v, he, ho, hn⟩ => ?_
          obtain ⟨g, cap, rfl⟩ := row_some ho (by rw [hlw]; omega)
          exact ⟨_, he, ⟨g, cap, rfl, row_mono ho (Nat.zero_le _)⟩, ⟨hs.1.new hn, hn.row hs.2.1 (fun _ _ => id), hn.heap hs.2.2 id⟩, hn⟩
        · refine fs_guard 85 rfl rfl (fun _ _ h => h) (body_val new_re fun aa ww hs hf => ?_)
          have h96 : ownsB (wr ws a m x) (aa.tmps[96]?.getD undef) ww := hf 96 (by decide)
          obtain ⟨gg, cc, hg1, hg2⟩ := h96
          rw [hg1] at hg2
          have hc := conv_own hg2
          exact ⟨(.string (str (wr ws a m x))), by simp [go_sem, hg1, hc], rfl⟩
        · refine fs_guard 85 rfl rfl (fun _ _ h => h) (body_val new_re fun aa ww hs hf => ?_)
          have h88 : aa.tmps[88]?.getD undef = (.string (str (wr ws a m x))) := hf 88 (by decide)
          have h97 : aa.tmps[97]?.getD undef = (.string (str (wr ws a m x))) := hf 97 (by decide)
          exact ⟨(.bool true), by simp [go_sem, h88, h97], rfl⟩
        · exact fs_plain rfl (body_pick new_re (c := 85) (x := 98) rfl (fun _ _ h => h) fun _ _ h => h)
        · exact fs_plain rfl (body_move new_re (t := 99) (.inl rfl) fun _ _ h => h)
        · refine fs_guard 100 rfl rfl (fun _ _ h => h) (body_call fun aa ww hs hf => ?_)
          refine ⟨14, #[], by simp [go_sem], ?_⟩
          exact (works_c ww).mono fun e w'' ⟨he, hn⟩ => ⟨_, he, rfl, ⟨hs.1.new hn, hn.row hs.2.1 (fun _ _ => id), hn.heap hs.2.2 id⟩, hn⟩
        · exact fs_plain rfl (body_pick new_re (c := 100) (x := 101) rfl (fun _ _ h => h) fun _ _ h => h)
        · exact fs_plain rfl (body_move new_re (t := 102) (.inr rfl) fun _ _ h => h)
      · intro a w hw
        go_wp2
        refine ⟨hw.defers, _, results_tmp rfl _ _ _, ?_⟩
        rw [show a.tmps.getD 6 undef = .bool true from hw.facts 26 6 rfl rfl]
        exact ⟨rfl, (((((HN0.out.tr HN1.out).tr HN2.out).tr HN3.out).trans HN4.out (by intro i hi he; have := HI.out.hg; have h1 := HN1.out.size; have h0 := HN0.out.size; omega)).tr (new_dr _) |>.tr hw.ext).nb⟩
    · have hne : (accErr ws.length a n != 0) = true := by rw [bne_iff_ne]; exact hacc
      rw [rdSpec_no hacc]
      go_wp2_with fail
      refine (write_no (HI.out.new HN3.out) a ha n x hacc).mono ?_
      rintro e w4 ⟨rfl, hn⟩
      have HN4 := Lib.hid hn
      clear hn
      generalize hE : accErr ws.length a n = E at *
      clear hacc d0 d1 d2
      have HI4 := Lib.hid ((HI.out.new HN3.out).new HN4.out)
      have HR4 := Lib.hid (HN4.out.row (HN3.out.row (HN2.out.row HR1.out (by simp)) (by simp)) (by simp))
      have hc4 := conv_own HR4.out
      have he4 := str_inj ws ws
      rw [decide_eq_true rfl] at he4
      go_wp2_with (first | (go_at_call 13; refine (num_c _ _).mono ?_; rintro e w' ⟨rfl, rfl⟩))
      clear hc4
      refine wp_region_facts (S := fun W => Img 0 W b g2 cap2 ws) New (FT (T13 b ws)) [11, 8, 7] 103 (by kernel_rfl) (by kernel_rfl) rfl new_re new_tr (Stab.ft ?_) ?_ ?_ ?_ ?_
      · unfold T13
        repeat (first | exact stab_nil | refine stab_is ?_ | refine ownsB_new ?_)
      · exact (HI4.out.new (new_dr _)).mono (Nat.zero_le _)
      · intro t ht
        simp only [List.mem_cons, List.not_mem_nil, or_false] at ht
        rcases ht with rfl | rfl | rfl
        · rfl
        · rfl
        · exact ⟨g, ws.length, rfl, row_mono (World.ownsRow.drew HR4.out) (Nat.zero_le _)⟩
      · refine ⟨?_, ?_, ?_, ?_, ?_, ?_, ?_, ?_, ?_, ?_, ?_, ?_, ?_, ?_, trivial⟩
        · exact fs_plain rfl (body_move new_re (t := 11) (.inl rfl) fun _ _ h => h)
        · refine fs_plain rfl (body_val new_re fun aa ww hs hf => ?_)
          have h64 : aa.tmps[64]?.getD undef = (.int .u32 0) := hf 64 (by decide)
          exact ⟨(.bool true), by simp [go_sem, h64], rfl⟩
        · exact fs_plain rfl (body_move new_re (t := 65) (.inl rfl) fun _ _ h => h)
        · exact fs_guard 66 rfl rfl (fun _ _ h => h) (body_move new_re (t := 8) (.inl rfl) fun _ _ h => h)
        · refine fs_guard 66 rfl rfl (fun _ _ h => h) (body_call fun aa ww hs hf => ?_)
          have h67 : aa.tmps[67]?.getD undef = (.pointer (some ⟨b, 0, none⟩)) := hf 67 (by decide)
          refine ⟨19, #[.pointer (some ⟨b, 0, none⟩)], by simp [go_sem, h67], ?_⟩
          exact (bytes_some hs).mono fun e w'' ⟨v, he, ho, hn⟩ => by obtain ⟨g, cap, rfl⟩ := row_some ho (by have := hs.pos; omega); exact ⟨_, he, ⟨g, cap, rfl, row_mono ho (Nat.zero_le _)⟩, hs.new hn, hn⟩
        · refine fs_guard 66 rfl rfl (fun _ _ h => h) (body_val new_re fun aa ww hs hf => ?_)
          have h68 : ownsB ws (aa.tmps[68]?.getD undef) ww := hf 68 (by decide)
          obtain ⟨gg, cc, hg1, hg2⟩ := h68
          rw [hg1] at hg2
          have hc := conv_own hg2
          exact ⟨(.string (str ws)), by simp [go_sem, hg1, hc], rfl⟩
        · exact fs_guard 66 rfl rfl (fun _ _ h => h) (body_move new_re (t := 7) (.inl rfl) fun _ _ h => h)
        · refine fs_guard 66 rfl rfl (fun _ _ h => h) (body_val new_re fun aa ww hs hf => ?_)
          have h70 : ownsB ws (aa.tmps[70]?.getD undef) ww := hf 70 (by decide)
          obtain ⟨gg, cc, hg1, hg2⟩ := h70
          rw [hg1] at hg2
          have hc := conv_own hg2
          exact ⟨(.string (str ws)), by simp [go_sem, hg1, hc], rfl⟩
        · refine fs_guard 66 rfl rfl (fun _ _ h => h) (body_val new_re fun aa ww hs hf => ?_)
          have h69 : aa.tmps[69]?.getD undef = (.string (str ws)) := hf 69 (by decide)
          have h71 : aa.tmps[71]?.getD undef = (.string (str ws)) := hf 71 (by decide)
          exact ⟨(.bool true), by simp [go_sem, h69, h71], rfl⟩
        · exact fs_plain rfl (body_pick new_re (c := 66) (x := 72) rfl (fun _ _ h => h) fun _ _ h => h)
        · exact fs_plain rfl (body_move new_re (t := 73) (.inl rfl) fun _ _ h => h)
        · refine fs_guard 74 rfl rfl (fun _ _ h => h) (body_call fun aa ww hs hf => ?_)
          refine ⟨14, #[], by simp [go_sem], ?_⟩
          exact (works_c ww).mono fun e w'' ⟨he, hn⟩ => ⟨_, he, rfl, hs.new hn, hn⟩
        · exact fs_plain rfl (body_pick new_re (c := 74) (x := 75) rfl (fun _ _ h => h) fun _ _ h => h)
        · exact fs_plain rfl (body_move new_re (t := 76) (.inr rfl) fun _ _ h => h)
      · intro a w hw
        go_wp2
        refine ⟨hw.defers, _, results_tmp rfl _ _ _, ?_⟩
        rw [show a.tmps.getD 6 undef = .bool true from hw.facts 13 6 rfl rfl]
        exact ⟨rfl, ((((((HN0.out.tr HN1.out).tr HN2.out).tr HN3.out).tr HN4.out).tr (new_dr _)).tr hw.ext).nb⟩
end Go.Proofs.Ytglepciddhbmbaa
