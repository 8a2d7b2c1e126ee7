/-
  The walk of ImageAgain.
-/
import Derived.Test.YtglepciddhbmbaaImgK
import Derived.Test.YtglepciddhbmbaaWReads
namespace Go.Proofs.Ytglepciddhbmbaa
open Go.RowKit

set_option maxRecDepth 100000 in
set_option maxHeartbeats 8000000 in
theorem walk_ImageAgain (w : World) (v : Value) (hv : ∃ bs, ByteArg w v bs) (wide : Int) (_h1 : (Lit.int .i64 wide).wf = true) (v2 : Value) (h2 : AccArg v2) (o : Int) (h3 : (Lit.int .u32 o).wf = true) :
    Calls Try.prog 8 #[v, .int .i64 wide, v2, .int .u32 o] w fun e w' => e = .returned (.bool true) ∧ Below w.heap.size w w' := by
  obtain ⟨bs, hv⟩ := hv
  obtain ⟨ho0, ho1⟩ := bounds_u32 h3
  obtain ⟨o, rfl⟩ := Int.eq_ofNat_of_zero_le ho0
  obtain ⟨a, n, x, ha, hx, rfl⟩ := h2
  have hN0 : New w (w.alloc (.cells #[.int .u32 a, .int .i64 n, .int .u32 x] 40)) := (Only.refl _ w).alloc _
  have hv' : ByteArg (w.alloc (.cells #[.int .u32 a, .int .i64 n, .int .u32 x] 40)) v bs := by
    obtain ⟨va, cap, h1, h2, h3⟩ := hv
    refine ⟨va, cap, h1, h2, fun h => ?_⟩
    obtain ⟨b, o, h4, h5⟩ := h3 h
    exact ⟨b, o, h4, fun j u hj => hN0.cell (h5 j u hj) id⟩
  have HS := Lib.hid (sized_c v bs wide _ hv')
  have HN0 := Lib.hid hN0
  obtain ⟨va, cap, rfl, hm, _⟩ := hv
  unfold maxLen at hm
  have HA := Lib.hid (Go.heap_alloc_new w (.cells #[.int .u32 a, .int .i64 n, .int .u32 x] 40))
  clear hv' hN0 h3 ho0
  by_cases hlen : 10000 < bs.length
  · go_enter Try.func8, Try.ntmps8
    go_wp2_with (go_at_call 14; refine (works_c _).mono ?_; rintro e w2 ⟨rfl, hn⟩; have HN2 := Lib.hid hn; clear hn)
    go_ret
    exact ⟨rfl, (HN0.out.tr HN2.out).nb⟩
  · go_enter Try.func8, Try.ntmps8
    go_wp2_with (go_at_call 16; refine HS.out.mono ?_; rintro e w1 ⟨g, ws, rfl, hok, hrow, hn⟩; have HOk := Lib.hid hok; have HR1 := Lib.hid hrow; have HN1 := Lib.hid hn; clear hok hrow hn)
    refine (of_yes g 0 _ _ ws _ rfl (own_bytes HR1.out) HOk.out).mono ?_
    rintro e w2 ⟨b, g2, cap2, rfl, hi, hn⟩
    have HI := Lib.hid hi
    have HN2 := Lib.hid hn
    clear hi hn
    go_wp2_with fail
    refine (copy_some HI.out).mono ?_
    rintro e w3 ⟨b3, g3, cap3, rfl, hi, hn⟩
    have HI3 := Lib.hid hi
    have HN3 := Lib.hid hn
    clear hi hn
    have hA3 := HN3.out.heap (HN2.out.heap (HN1.out.heap HA.out id) id) id
    have c0 : w3.cell? ⟨w.heap.size, 0, none⟩ = some (.int .u32 a) := by rw [head_cell hA3]; rfl
    have c1 : w3.cell? ⟨w.heap.size, 1, none⟩ = some (.int .i64 n) := by rw [head_cell hA3]; rfl
    have c2 : w3.cell? ⟨w.heap.size, 2, none⟩ = some (.int .u32 x) := by rw [head_cell hA3]; rfl
    have HA3 := Lib.hid hA3
    clear hA3
    have hr := okSize_range HOk.out
    obtain ⟨hr1, hr2⟩ := hr
    go_wp2_with fail
    by_cases hacc : accErr ws.length a n = 0
    · have hfit := accErr_fit hacc (by have := (okSize_mul HOk.out).2; omega)
      have HHalf := Lib.hid (word_halves (wr ws a n.toNat x) (a - a % 4) (by omega) (by rw [wr_length _ _ _ _ hfit]; have := accErr_zero hacc; omega) (by rw [wr_length _ _ _ _ hfit]; have := (okSize_mul HOk.out).2; omega))
      have HBey := Lib.hid (rd_beyond ws a n.toNat x o hfit)
      have HRd := Lib.hid (rd_wr ws a x n hacc hfit)
      have HLen := Lib.hid (wr_length ws a n.toNat x hfit)
      have hw3 := (accErr_zero hacc).1
      refine (write_yes (HI.out.new HN3.out) a n x hacc).mono ?_
      rintro e w4 ⟨rfl, hi, hn⟩
      have HI4 := Lib.hid hi
      have HN4 := Lib.hid hn
      have hgA := HN1.out.lt (show w.heap.size < _ from (Array.getElem?_eq_some_iff.1 HA.out).1)
      have hg2 := HI.out.hg
      have hl3 := HI3.out.lt
      have HI4o := Lib.hid (HI3.out.only hn (fun h => by have h1 := HI.out.lt; have h2 := HI3.out.hb; have h3 : b3 = g2 := h; omega) (fun h => by have h1 := HI.out.lt; have h2 := HI3.out.hg; have h3 : g3 = g2 := h; omega))
      have hA4 := hn.heap HA3.out (by omega)
      have d0 : w4.cell? ⟨w.heap.size, 0, none⟩ = some (.int .u32 a) := by rw [head_cell hA4]; rfl
      have d1 : w4.cell? ⟨w.heap.size, 1, none⟩ = some (.int .i64 n) := by rw [head_cell hA4]; rfl
      have HA4 := Lib.hid hA4
      clear hi hn hA4 c0 c1 c2
      go_wp2_with fail
      refine (read_any HI4.out a ha n).mono ?_
      rintro e w5 ⟨rfl, hn⟩
      have hA5 := hn.heap HA4.out id
      have c0 : w5.cell? ⟨w.heap.size, 0, none⟩ = some (.int .u32 a) := by rw [head_cell hA5]; rfl
      have c1 : w5.cell? ⟨w.heap.size, 1, none⟩ = some (.int .i64 n) := by rw [head_cell hA5]; rfl
      have c2 : w5.cell? ⟨w.heap.size, 2, none⟩ = some (.int .u32 x) := by rw [head_cell hA5]; rfl
      have HI5 := Lib.hid (HI4.out.new hn)
      have HI5o := Lib.hid (HI4o.out.new hn)
      have HN5 := Lib.hid hn
      have HA5 := Lib.hid hA5
      rw [HLen.out, hacc, HRd.out]
      clear hn hA5 d0 d1 hgA hg2 hl3
      have hx255 := and_255 x hx
      have hx65535 := and_65535 x hx
      have hvar : ∃ ys, ys = wr ws a n.toNat x := ⟨_, rfl⟩
      obtain ⟨ys, hys⟩ := hvar
      rw [← hys] at HHalf HBey HRd HLen HI4 HI5
      clear hys HI4o
      rcases hw3 with rfl | rfl | rfl
      · have HFit := Lib.hid (show a + 1 ≤ ws.length from hfit)
        have HBey2 := Lib.hid (show o < a ∨ a + 1 ≤ o → rdSpec ys o 1 = rdSpec ws o 1 from HBey.out)
        rw [show x % 256 ^ (1 : Int).toNat = x % 256 from rfl]
        clear hfit HBey
        go_wp2_with (go_at_call 13; refine (num_c _ _).mono ?_; rintro e w9 ⟨rfl, rfl⟩)
        refine (read_any HI5.out o (by omega) 1).mono ?_
        rintro e w6 ⟨rfl, hn⟩
        have HI6 := Lib.hid (HI5.out.new hn)
        have HI6o := Lib.hid (HI5o.out.new hn)
        have HA6 := Lib.hid (hn.heap HA5.out id)
        have HN6 := Lib.hid hn
        rw [HLen.out]
        clear hn c0 c1 c2
        go_wp2_with fail
        refine (read_any HI6o.out o (by omega) 1).mono ?_
        rintro e w7 ⟨rfl, hn⟩
        have hA7 := hn.heap HA6.out id
        have HI7 := Lib.hid (HI6.out.new hn)
        have HN7 := Lib.hid hn
        have c0 : w7.cell? ⟨w.heap.size, 0, none⟩ = some (.int .u32 a) := by rw [head_cell hA7]; rfl
        have c1 : w7.cell? ⟨w.heap.size, 1, none⟩ = some (.int .i64 1) := by rw [head_cell hA7]; rfl
        have HA7 := Lib.hid hA7
        clear hn hA7
        generalize accErr ws.length o 1 = E at *
        generalize rdSpec ys o 1 = y1 at *
        generalize rdSpec ws o 1 = y2 at *
        by_cases hlt : o < a
        · have hy := HBey2.out (.inl hlt)
          subst hy
          have hlt2 : decide ((o : Int) < (a : Int)) = true := decide_eq_true (by omega)
          go_wp2_with (go_at_call 13; refine (num_c _ _).mono ?_; rintro e w9 ⟨rfl, rfl⟩)
          obtain ⟨q, hq⟩ : ∃ q, q = a - a % 4 := ⟨_, rfl⟩
          rw [← hq] at HHalf
          rw [show (a : Int) - (a : Int) % 4 = (q : Int) from by omega]
          have hqb : (q : Int) + 4 ≤ 4096 := by have := HFit.out; have := okSize_mul HOk.out; omega
          clear hq
          refine (read_any HI7.out q (by omega) 4).mono ?_
          rintro e w8 ⟨rfl, hn⟩
          have HN8 := Lib.hid hn
          have HI8 := Lib.hid (HI7.out.new hn)
          clear hn c0 c1
          go_wp2_with fail
          refine (read_any HI8.out q (by omega) 2).mono ?_
          rintro e w10 ⟨rfl, hn⟩
          have HN10 := Lib.hid hn
          have HI10 := Lib.hid (HI8.out.new hn)
          clear hn
          go_wp2_with fail
          rw [show (q : Int) + 2 = ((q + 2 : Nat) : Int) from by omega]
          refine (read_any HI10.out (q + 2) (by omega) 2).mono ?_
          rintro e w11 ⟨rfl, hn⟩
          have HN11 := Lib.hid hn
          have HI11 := Lib.hid (HI10.out.new hn)
          clear hn
          go_wp2_with fail
          rw [show (q : Int) + 3 = ((q + 3 : Nat) : Int) from by omega]
          refine (read_any HI11.out (q + 3) (by omega) 1).mono ?_
          rintro e w12 ⟨rfl, hn⟩
          have HN12 := Lib.hid hn
          clear hn
          have hh := HHalf.out
          clear HHalf
          generalize rdSpec ys q 4 = r4 at *
          generalize rdSpec ys q 2 = r2 at *
          generalize rdSpec ys (q + 2) 2 = r3 at *
          generalize rdSpec ys (q + 3) 1 = r1 at *
          obtain ⟨rfl, rfl, hh1, hh2⟩ := hh
          go_wp2_with (go_at_call 14; refine (works_c _).mono ?_; rintro e w13 ⟨rfl, hn⟩; have HN13 := Lib.hid hn; clear hn)
          go_ret
          exact ⟨rfl, ((((((((((((HN0.out.tr HN1.out).tr HN2.out).tr HN3.out).trans HN4.out (by intro i hi he; have := HI.out.hg; have h1 := HN1.out.size; have h0 := HN0.out.size; omega)).tr HN5.out).tr HN6.out).tr HN7.out).tr HN8.out).tr HN10.out).tr HN11.out).tr HN12.out).tr HN13.out).nb⟩
        by_cases hge : a + 1 ≤ o
        · have hy := HBey2.out (.inr hge)
          subst hy
          have hlt2 : decide ((o : Int) < (a : Int)) = false := decide_eq_false (by omega)
          have hge2 : decide ((a : Int) + 1 ≤ (o : Int)) = true := decide_eq_true (by omega)
          go_wp2_with (go_at_call 13; refine (num_c _ _).mono ?_; rintro e w9 ⟨rfl, rfl⟩)
          obtain ⟨q, hq⟩ : ∃ q, q = a - a % 4 := ⟨_, rfl⟩
          rw [← hq] at HHalf
          rw [show (a : Int) - (a : Int) % 4 = (q : Int) from by omega]
          have hqb : (q : Int) + 4 ≤ 4096 := by have := HFit.out; have := okSize_mul HOk.out; omega
          clear hq
          refine (read_any HI7.out q (by omega) 4).mono ?_
          rintro e w8 ⟨rfl, hn⟩
          have HN8 := Lib.hid hn
          have HI8 := Lib.hid (HI7.out.new hn)
          clear hn c0 c1
          go_wp2_with fail
          refine (read_any HI8.out q (by omega) 2).mono ?_
          rintro e w10 ⟨rfl, hn⟩
          have HN10 := Lib.hid hn
          have HI10 := Lib.hid (HI8.out.new hn)
          clear hn
          go_wp2_with fail
          rw [show (q : Int) + 2 = ((q + 2 : Nat) : Int) from by omega]
          refine (read_any HI10.out (q + 2) (by omega) 2).mono ?_
          rintro e w11 ⟨rfl, hn⟩
          have HN11 := Lib.hid hn
          have HI11 := Lib.hid (HI10.out.new hn)
          clear hn
          go_wp2_with fail
          rw [show (q : Int) + 3 = ((q + 3 : Nat) : Int) from by omega]
          refine (read_any HI11.out (q + 3) (by omega) 1).mono ?_
          rintro e w12 ⟨rfl, hn⟩
          have HN12 := Lib.hid hn
          clear hn
          have hh := HHalf.out
          clear HHalf
          generalize rdSpec ys q 4 = r4 at *
          generalize rdSpec ys q 2 = r2 at *
          generalize rdSpec ys (q + 2) 2 = r3 at *
          generalize rdSpec ys (q + 3) 1 = r1 at *
          obtain ⟨rfl, rfl, hh1, hh2⟩ := hh
          go_wp2_with (go_at_call 14; refine (works_c _).mono ?_; rintro e w13 ⟨rfl, hn⟩; have HN13 := Lib.hid hn; clear hn)
          go_ret
          exact ⟨rfl, ((((((((((((HN0.out.tr HN1.out).tr HN2.out).tr HN3.out).trans HN4.out (by intro i hi he; have := HI.out.hg; have h1 := HN1.out.size; have h0 := HN0.out.size; omega)).tr HN5.out).tr HN6.out).tr HN7.out).tr HN8.out).tr HN10.out).tr HN11.out).tr HN12.out).tr HN13.out).nb⟩
        · have hlt2 : decide ((o : Int) < (a : Int)) = false := decide_eq_false (by omega)
          have hge2 : decide ((a : Int) + 1 ≤ (o : Int)) = false := decide_eq_false (by omega)
          go_wp2_with (go_at_call 13; refine (num_c _ _).mono ?_; rintro e w9 ⟨rfl, rfl⟩)
          obtain ⟨q, hq⟩ : ∃ q, q = a - a % 4 := ⟨_, rfl⟩
          rw [← hq] at HHalf
          rw [show (a : Int) - (a : Int) % 4 = (q : Int) from by omega]
          have hqb : (q : Int) + 4 ≤ 4096 := by have := HFit.out; have := okSize_mul HOk.out; omega
          clear hq
          refine (read_any HI7.out q (by omega) 4).mono ?_
          rintro e w8 ⟨rfl, hn⟩
          have HN8 := Lib.hid hn
          have HI8 := Lib.hid (HI7.out.new hn)
          clear hn c0 c1
          go_wp2_with fail
          refine (read_any HI8.out q (by omega) 2).mono ?_
          rintro e w10 ⟨rfl, hn⟩
          have HN10 := Lib.hid hn
          have HI10 := Lib.hid (HI8.out.new hn)
          clear hn
          go_wp2_with fail
          rw [show (q : Int) + 2 = ((q + 2 : Nat) : Int) from by omega]
          refine (read_any HI10.out (q + 2) (by omega) 2).mono ?_
          rintro e w11 ⟨rfl, hn⟩
          have HN11 := Lib.hid hn
          have HI11 := Lib.hid (HI10.out.new hn)
          clear hn
          go_wp2_with fail
          rw [show (q : Int) + 3 = ((q + 3 : Nat) : Int) from by omega]
          refine (read_any HI11.out (q + 3) (by omega) 1).mono ?_
          rintro e w12 ⟨rfl, hn⟩
          have HN12 := Lib.hid hn
          clear hn
          have hh := HHalf.out
          clear HHalf
          generalize rdSpec ys q 4 = r4 at *
          generalize rdSpec ys q 2 = r2 at *
          generalize rdSpec ys (q + 2) 2 = r3 at *
          generalize rdSpec ys (q + 3) 1 = r1 at *
          obtain ⟨rfl, rfl, hh1, hh2⟩ := hh
          go_wp2_with (go_at_call 14; refine (works_c _).mono ?_; rintro e w13 ⟨rfl, hn⟩; have HN13 := Lib.hid hn; clear hn)
          go_ret
          exact ⟨rfl, ((((((((((((HN0.out.tr HN1.out).tr HN2.out).tr HN3.out).trans HN4.out (by intro i hi he; have := HI.out.hg; have h1 := HN1.out.size; have h0 := HN0.out.size; omega)).tr HN5.out).tr HN6.out).tr HN7.out).tr HN8.out).tr HN10.out).tr HN11.out).tr HN12.out).tr HN13.out).nb⟩
      · have HFit := Lib.hid (show a + 2 ≤ ws.length from hfit)
        have HBey2 := Lib.hid (show o < a ∨ a + 2 ≤ o → rdSpec ys o 1 = rdSpec ws o 1 from HBey.out)
        rw [show x % 256 ^ (2 : Int).toNat = x % 65536 from rfl]
        clear hfit HBey
        go_wp2_with (go_at_call 13; refine (num_c _ _).mono ?_; rintro e w9 ⟨rfl, rfl⟩)
        refine (read_any HI5.out o (by omega) 1).mono ?_
        rintro e w6 ⟨rfl, hn⟩
        have HI6 := Lib.hid (HI5.out.new hn)
        have HI6o := Lib.hid (HI5o.out.new hn)
        have HA6 := Lib.hid (hn.heap HA5.out id)
        have HN6 := Lib.hid hn
        rw [HLen.out]
        clear hn c0 c1 c2
        go_wp2_with fail
        refine (read_any HI6o.out o (by omega) 1).mono ?_
        rintro e w7 ⟨rfl, hn⟩
        have hA7 := hn.heap HA6.out id
        have HI7 := Lib.hid (HI6.out.new hn)
        have HN7 := Lib.hid hn
        have c0 : w7.cell? ⟨w.heap.size, 0, none⟩ = some (.int .u32 a) := by rw [head_cell hA7]; rfl
        have c1 : w7.cell? ⟨w.heap.size, 1, none⟩ = some (.int .i64 2) := by rw [head_cell hA7]; rfl
        have HA7 := Lib.hid hA7
        clear hn hA7
        generalize accErr ws.length o 1 = E at *
        generalize rdSpec ys o 1 = y1 at *
        generalize rdSpec ws o 1 = y2 at *
        by_cases hlt : o < a
        · have hy := HBey2.out (.inl hlt)
          subst hy
          have hlt2 : decide ((o : Int) < (a : Int)) = true := decide_eq_true (by omega)
          go_wp2_with (go_at_call 13; refine (num_c _ _).mono ?_; rintro e w9 ⟨rfl, rfl⟩)
          obtain ⟨q, hq⟩ : ∃ q, q = a - a % 4 := ⟨_, rfl⟩
          rw [← hq] at HHalf
          rw [show (a : Int) - (a : Int) % 4 = (q : Int) from by omega]
          have hqb : (q : Int) + 4 ≤ 4096 := by have := HFit.out; have := okSize_mul HOk.out; omega
          clear hq
          refine (read_any HI7.out q (by omega) 4).mono ?_
          rintro e w8 ⟨rfl, hn⟩
          have HN8 := Lib.hid hn
          have HI8 := Lib.hid (HI7.out.new hn)
          clear hn c0 c1
          go_wp2_with fail
          refine (read_any HI8.out q (by omega) 2).mono ?_
          rintro e w10 ⟨rfl, hn⟩
          have HN10 := Lib.hid hn
          have HI10 := Lib.hid (HI8.out.new hn)
          clear hn
          go_wp2_with fail
          rw [show (q : Int) + 2 = ((q + 2 : Nat) : Int) from by omega]
          refine (read_any HI10.out (q + 2) (by omega) 2).mono ?_
          rintro e w11 ⟨rfl, hn⟩
          have HN11 := Lib.hid hn
          have HI11 := Lib.hid (HI10.out.new hn)
          clear hn
          go_wp2_with fail
          rw [show (q : Int) + 3 = ((q + 3 : Nat) : Int) from by omega]
          refine (read_any HI11.out (q + 3) (by omega) 1).mono ?_
          rintro e w12 ⟨rfl, hn⟩
          have HN12 := Lib.hid hn
          clear hn
          have hh := HHalf.out
          clear HHalf
          generalize rdSpec ys q 4 = r4 at *
          generalize rdSpec ys q 2 = r2 at *
          generalize rdSpec ys (q + 2) 2 = r3 at *
          generalize rdSpec ys (q + 3) 1 = r1 at *
          obtain ⟨rfl, rfl, hh1, hh2⟩ := hh
          go_wp2_with (go_at_call 14; refine (works_c _).mono ?_; rintro e w13 ⟨rfl, hn⟩; have HN13 := Lib.hid hn; clear hn)
          go_ret
          exact ⟨rfl, ((((((((((((HN0.out.tr HN1.out).tr HN2.out).tr HN3.out).trans HN4.out (by intro i hi he; have := HI.out.hg; have h1 := HN1.out.size; have h0 := HN0.out.size; omega)).tr HN5.out).tr HN6.out).tr HN7.out).tr HN8.out).tr HN10.out).tr HN11.out).tr HN12.out).tr HN13.out).nb⟩
        by_cases hge : a + 2 ≤ o
        · have hy := HBey2.out (.inr hge)
          subst hy
          have hlt2 : decide ((o : Int) < (a : Int)) = false := decide_eq_false (by omega)
          have hge2 : decide ((a : Int) + 2 ≤ (o : Int)) = true := decide_eq_true (by omega)
          go_wp2_with (go_at_call 13; refine (num_c _ _).mono ?_; rintro e w9 ⟨rfl, rfl⟩)
          obtain ⟨q, hq⟩ : ∃ q, q = a - a % 4 := ⟨_, rfl⟩
          rw [← hq] at HHalf
          rw [show (a : Int) - (a : Int) % 4 = (q : Int) from by omega]
          have hqb : (q : Int) + 4 ≤ 4096 := by have := HFit.out; have := okSize_mul HOk.out; omega
          clear hq
          refine (read_any HI7.out q (by omega) 4).mono ?_
          rintro e w8 ⟨rfl, hn⟩
          have HN8 := Lib.hid hn
          have HI8 := Lib.hid (HI7.out.new hn)
          clear hn c0 c1
          go_wp2_with fail
          refine (read_any HI8.out q (by omega) 2).mono ?_
          rintro e w10 ⟨rfl, hn⟩
          have HN10 := Lib.hid hn
          have HI10 := Lib.hid (HI8.out.new hn)
          clear hn
          go_wp2_with fail
          rw [show (q : Int) + 2 = ((q + 2 : Nat) : Int) from by omega]
          refine (read_any HI10.out (q + 2) (by omega) 2).mono ?_
          rintro e w11 ⟨rfl, hn⟩
          have HN11 := Lib.hid hn
          have HI11 := Lib.hid (HI10.out.new hn)
          clear hn
          go_wp2_with fail
          rw [show (q : Int) + 3 = ((q + 3 : Nat) : Int) from by omega]
          refine (read_any HI11.out (q + 3) (by omega) 1).mono ?_
          rintro e w12 ⟨rfl, hn⟩
          have HN12 := Lib.hid hn
          clear hn
          have hh := HHalf.out
          clear HHalf
          generalize rdSpec ys q 4 = r4 at *
          generalize rdSpec ys q 2 = r2 at *
          generalize rdSpec ys (q + 2) 2 = r3 at *
          generalize rdSpec ys (q + 3) 1 = r1 at *
          obtain ⟨rfl, rfl, hh1, hh2⟩ := hh
          go_wp2_with (go_at_call 14; refine (works_c _).mono ?_; rintro e w13 ⟨rfl, hn⟩; have HN13 := Lib.hid hn; clear hn)
          go_ret
          exact ⟨rfl, ((((((((((((HN0.out.tr HN1.out).tr HN2.out).tr HN3.out).trans HN4.out (by intro i hi he; have := HI.out.hg; have h1 := HN1.out.size; have h0 := HN0.out.size; omega)).tr HN5.out).tr HN6.out).tr HN7.out).tr HN8.out).tr HN10.out).tr HN11.out).tr HN12.out).tr HN13.out).nb⟩
        · have hlt2 : decide ((o : Int) < (a : Int)) = false := decide_eq_false (by omega)
          have hge2 : decide ((a : Int) + 2 ≤ (o : Int)) = false := decide_eq_false (by omega)
          go_wp2_with (go_at_call 13; refine (num_c _ _).mono ?_; rintro e w9 ⟨rfl, rfl⟩)
          obtain ⟨q, hq⟩ : ∃ q, q = a - a % 4 := ⟨_, rfl⟩
          rw [← hq] at HHalf
          rw [show (a : Int) - (a : Int) % 4 = (q : Int) from by omega]
          have hqb : (q : Int) + 4 ≤ 4096 := by have := HFit.out; have := okSize_mul HOk.out; omega
          clear hq
          refine (read_any HI7.out q (by omega) 4).mono ?_
          rintro e w8 ⟨rfl, hn⟩
          have HN8 := Lib.hid hn
          have HI8 := Lib.hid (HI7.out.new hn)
          clear hn c0 c1
          go_wp2_with fail
          refine (read_any HI8.out q (by omega) 2).mono ?_
          rintro e w10 ⟨rfl, hn⟩
          have HN10 := Lib.hid hn
          have HI10 := Lib.hid (HI8.out.new hn)
          clear hn
          go_wp2_with fail
          rw [show (q : Int) + 2 = ((q + 2 : Nat) : Int) from by omega]
          refine (read_any HI10.out (q + 2) (by omega) 2).mono ?_
          rintro e w11 ⟨rfl, hn⟩
          have HN11 := Lib.hid hn
          have HI11 := Lib.hid (HI10.out.new hn)
          clear hn
          go_wp2_with fail
          rw [show (q : Int) + 3 = ((q + 3 : Nat) : Int) from by omega]
          refine (read_any HI11.out (q + 3) (by omega) 1).mono ?_
          rintro e w12 ⟨rfl, hn⟩
          have HN12 := Lib.hid hn
          clear hn
          have hh := HHalf.out
          clear HHalf
          generalize rdSpec ys q 4 = r4 at *
          generalize rdSpec ys q 2 = r2 at *
          generalize rdSpec ys (q + 2) 2 = r3 at *
          generalize rdSpec ys (q + 3) 1 = r1 at *
          obtain ⟨rfl, rfl, hh1, hh2⟩ := hh
          go_wp2_with (go_at_call 14; refine (works_c _).mono ?_; rintro e w13 ⟨rfl, hn⟩; have HN13 := Lib.hid hn; clear hn)
          go_ret
          exact ⟨rfl, ((((((((((((HN0.out.tr HN1.out).tr HN2.out).tr HN3.out).trans HN4.out (by intro i hi he; have := HI.out.hg; have h1 := HN1.out.size; have h0 := HN0.out.size; omega)).tr HN5.out).tr HN6.out).tr HN7.out).tr HN8.out).tr HN10.out).tr HN11.out).tr HN12.out).tr HN13.out).nb⟩
      · have HFit := Lib.hid (show a + 4 ≤ ws.length from hfit)
        have HBey2 := Lib.hid (show o < a ∨ a + 4 ≤ o → rdSpec ys o 1 = rdSpec ws o 1 from HBey.out)
        rw [show x % 256 ^ (4 : Int).toNat = x from Nat.mod_eq_of_lt (by simpa using hx)]
        clear hfit HBey
        go_wp2_with (go_at_call 13; refine (num_c _ _).mono ?_; rintro e w9 ⟨rfl, rfl⟩)
        refine (read_any HI5.out o (by omega) 1).mono ?_
        rintro e w6 ⟨rfl, hn⟩
        have HI6 := Lib.hid (HI5.out.new hn)
        have HI6o := Lib.hid (HI5o.out.new hn)
        have HA6 := Lib.hid (hn.heap HA5.out id)
        have HN6 := Lib.hid hn
        rw [HLen.out]
        clear hn c0 c1 c2
        go_wp2_with fail
        refine (read_any HI6o.out o (by omega) 1).mono ?_
        rintro e w7 ⟨rfl, hn⟩
        have hA7 := hn.heap HA6.out id
        have HI7 := Lib.hid (HI6.out.new hn)
        have HN7 := Lib.hid hn
        have c0 : w7.cell? ⟨w.heap.size, 0, none⟩ = some (.int .u32 a) := by rw [head_cell hA7]; rfl
        have c1 : w7.cell? ⟨w.heap.size, 1, none⟩ = some (.int .i64 4) := by rw [head_cell hA7]; rfl
        have HA7 := Lib.hid hA7
        clear hn hA7
        generalize accErr ws.length o 1 = E at *
        generalize rdSpec ys o 1 = y1 at *
        generalize rdSpec ws o 1 = y2 at *
        by_cases hlt : o < a
        · have hy := HBey2.out (.inl hlt)
          subst hy
          have hlt2 : decide ((o : Int) < (a : Int)) = true := decide_eq_true (by omega)
          go_wp2_with (go_at_call 13; refine (num_c _ _).mono ?_; rintro e w9 ⟨rfl, rfl⟩)
          obtain ⟨q, hq⟩ : ∃ q, q = a - a % 4 := ⟨_, rfl⟩
          rw [← hq] at HHalf
          rw [show (a : Int) - (a : Int) % 4 = (q : Int) from by omega]
          have hqb : (q : Int) + 4 ≤ 4096 := by have := HFit.out; have := okSize_mul HOk.out; omega
          clear hq
          refine (read_any HI7.out q (by omega) 4).mono ?_
          rintro e w8 ⟨rfl, hn⟩
          have HN8 := Lib.hid hn
          have HI8 := Lib.hid (HI7.out.new hn)
          clear hn c0 c1
          go_wp2_with fail
          refine (read_any HI8.out q (by omega) 2).mono ?_
          rintro e w10 ⟨rfl, hn⟩
          have HN10 := Lib.hid hn
          have HI10 := Lib.hid (HI8.out.new hn)
          clear hn
          go_wp2_with fail
          rw [show (q : Int) + 2 = ((q + 2 : Nat) : Int) from by omega]
          refine (read_any HI10.out (q + 2) (by omega) 2).mono ?_
          rintro e w11 ⟨rfl, hn⟩
          have HN11 := Lib.hid hn
          have HI11 := Lib.hid (HI10.out.new hn)
          clear hn
          go_wp2_with fail
          rw [show (q : Int) + 3 = ((q + 3 : Nat) : Int) from by omega]
          refine (read_any HI11.out (q + 3) (by omega) 1).mono ?_
          rintro e w12 ⟨rfl, hn⟩
          have HN12 := Lib.hid hn
          clear hn
          have hh := HHalf.out
          clear HHalf
          generalize rdSpec ys q 4 = r4 at *
          generalize rdSpec ys q 2 = r2 at *
          generalize rdSpec ys (q + 2) 2 = r3 at *
          generalize rdSpec ys (q + 3) 1 = r1 at *
          obtain ⟨rfl, rfl, hh1, hh2⟩ := hh
          go_wp2_with (go_at_call 14; refine (works_c _).mono ?_; rintro e w13 ⟨rfl, hn⟩; have HN13 := Lib.hid hn; clear hn)
          go_ret
          exact ⟨rfl, ((((((((((((HN0.out.tr HN1.out).tr HN2.out).tr HN3.out).trans HN4.out (by intro i hi he; have := HI.out.hg; have h1 := HN1.out.size; have h0 := HN0.out.size; omega)).tr HN5.out).tr HN6.out).tr HN7.out).tr HN8.out).tr HN10.out).tr HN11.out).tr HN12.out).tr HN13.out).nb⟩
        by_cases hge : a + 4 ≤ o
        · have hy := HBey2.out (.inr hge)
          subst hy
          have hlt2 : decide ((o : Int) < (a : Int)) = false := decide_eq_false (by omega)
          have hge2 : decide ((a : Int) + 4 ≤ (o : Int)) = true := decide_eq_true (by omega)
          go_wp2_with (go_at_call 13; refine (num_c _ _).mono ?_; rintro e w9 ⟨rfl, rfl⟩)
          obtain ⟨q, hq⟩ : ∃ q, q = a - a % 4 := ⟨_, rfl⟩
          rw [← hq] at HHalf
          rw [show (a : Int) - (a : Int) % 4 = (q : Int) from by omega]
          have hqb : (q : Int) + 4 ≤ 4096 := by have := HFit.out; have := okSize_mul HOk.out; omega
          clear hq
          refine (read_any HI7.out q (by omega) 4).mono ?_
          rintro e w8 ⟨rfl, hn⟩
          have HN8 := Lib.hid hn
          have HI8 := Lib.hid (HI7.out.new hn)
          clear hn c0 c1
          go_wp2_with fail
          refine (read_any HI8.out q (by omega) 2).mono ?_
          rintro e w10 ⟨rfl, hn⟩
          have HN10 := Lib.hid hn
          have HI10 := Lib.hid (HI8.out.new hn)
          clear hn
          go_wp2_with fail
          rw [show (q : Int) + 2 = ((q + 2 : Nat) : Int) from by omega]
          refine (read_any HI10.out (q + 2) (by omega) 2).mono ?_
          rintro e w11 ⟨rfl, hn⟩
          have HN11 := Lib.hid hn
          have HI11 := Lib.hid (HI10.out.new hn)
          clear hn
          go_wp2_with fail
          rw [show (q : Int) + 3 = ((q + 3 : Nat) : Int) from by omega]
          refine (read_any HI11.out (q + 3) (by omega) 1).mono ?_
          rintro e w12 ⟨rfl, hn⟩
          have HN12 := Lib.hid hn
          clear hn
          have hh := HHalf.out
          clear HHalf
          generalize rdSpec ys q 4 = r4 at *
          generalize rdSpec ys q 2 = r2 at *
          generalize rdSpec ys (q + 2) 2 = r3 at *
          generalize rdSpec ys (q + 3) 1 = r1 at *
          obtain ⟨rfl, rfl, hh1, hh2⟩ := hh
          go_wp2_with (go_at_call 14; refine (works_c _).mono ?_; rintro e w13 ⟨rfl, hn⟩; have HN13 := Lib.hid hn; clear hn)
          go_ret
          exact ⟨rfl, ((((((((((((HN0.out.tr HN1.out).tr HN2.out).tr HN3.out).trans HN4.out (by intro i hi he; have := HI.out.hg; have h1 := HN1.out.size; have h0 := HN0.out.size; omega)).tr HN5.out).tr HN6.out).tr HN7.out).tr HN8.out).tr HN10.out).tr HN11.out).tr HN12.out).tr HN13.out).nb⟩
        · have hlt2 : decide ((o : Int) < (a : Int)) = false := decide_eq_false (by omega)
          have hge2 : decide ((a : Int) + 4 ≤ (o : Int)) = false := decide_eq_false (by omega)
          go_wp2_with (go_at_call 13; refine (num_c _ _).mono ?_; rintro e w9 ⟨rfl, rfl⟩)
          obtain ⟨q, hq⟩ : ∃ q, q = a - a % 4 := ⟨_, rfl⟩
          rw [← hq] at HHalf
          rw [show (a : Int) - (a : Int) % 4 = (q : Int) from by omega]
          have hqb : (q : Int) + 4 ≤ 4096 := by have := HFit.out; have := okSize_mul HOk.out; omega
          clear hq
          refine (read_any HI7.out q (by omega) 4).mono ?_
          rintro e w8 ⟨rfl, hn⟩
          have HN8 := Lib.hid hn
          have HI8 := Lib.hid (HI7.out.new hn)
          clear hn c0 c1
          go_wp2_with fail
          refine (read_any HI8.out q (by omega) 2).mono ?_
          rintro e w10 ⟨rfl, hn⟩
          have HN10 := Lib.hid hn
          have HI10 := Lib.hid (HI8.out.new hn)
          clear hn
          go_wp2_with fail
          rw [show (q : Int) + 2 = ((q + 2 : Nat) : Int) from by omega]
          refine (read_any HI10.out (q + 2) (by omega) 2).mono ?_
          rintro e w11 ⟨rfl, hn⟩
          have HN11 := Lib.hid hn
          have HI11 := Lib.hid (HI10.out.new hn)
          clear hn
          go_wp2_with fail
          rw [show (q : Int) + 3 = ((q + 3 : Nat) : Int) from by omega]
          refine (read_any HI11.out (q + 3) (by omega) 1).mono ?_
          rintro e w12 ⟨rfl, hn⟩
          have HN12 := Lib.hid hn
          clear hn
          have hh := HHalf.out
          clear HHalf
          generalize rdSpec ys q 4 = r4 at *
          generalize rdSpec ys q 2 = r2 at *
          generalize rdSpec ys (q + 2) 2 = r3 at *
          generalize rdSpec ys (q + 3) 1 = r1 at *
          obtain ⟨rfl, rfl, hh1, hh2⟩ := hh
          go_wp2_with (go_at_call 14; refine (works_c _).mono ?_; rintro e w13 ⟨rfl, hn⟩; have HN13 := Lib.hid hn; clear hn)
          go_ret
          exact ⟨rfl, ((((((((((((HN0.out.tr HN1.out).tr HN2.out).tr HN3.out).trans HN4.out (by intro i hi he; have := HI.out.hg; have h1 := HN1.out.size; have h0 := HN0.out.size; omega)).tr HN5.out).tr HN6.out).tr HN7.out).tr HN8.out).tr HN10.out).tr HN11.out).tr HN12.out).tr HN13.out).nb⟩
    · have hne : (accErr ws.length a n != 0) = true := by rw [bne_iff_ne]; exact hacc
      refine (write_no (HI.out.new HN3.out) a ha n x hacc).mono ?_
      rintro e w4 ⟨rfl, hn⟩
      have hA4 := hn.heap HA3.out id
      have d0 : w4.cell? ⟨w.heap.size, 0, none⟩ = some (.int .u32 a) := by rw [head_cell hA4]; rfl
      have d1 : w4.cell? ⟨w.heap.size, 1, none⟩ = some (.int .i64 n) := by rw [head_cell hA4]; rfl
      have HI4 := Lib.hid ((HI.out.new HN3.out).new hn)
      have HI4o := Lib.hid (HI3.out.new hn)
      have HN4 := Lib.hid hn
      clear hn hA4 c0 c1 c2
      go_wp2_with fail
      refine (read_any HI4.out a ha n).mono ?_
      rintro e w5 ⟨rfl, hn⟩
      have hsame := same_some ((HI4.out.new hn).mono (Nat.zero_le _)) ((HI4o.out.new hn).mono (Nat.zero_le _))
      rw [decide_eq_true rfl] at hsame
      have HSame := Lib.hid hsame
      have HN5 := Lib.hid hn
      rw [rdSpec_no hacc]
      clear hn hsame d0 d1
      generalize accErr ws.length a n = E at *
      go_wp2_with (first | (go_at_call 13; refine (num_c _ _).mono ?_; rintro e w' ⟨rfl, rfl⟩) | (go_at_call 28; refine HSame.out.mono ?_; rintro e w6 ⟨rfl, hn⟩; have HN6 := Lib.hid hn; clear hn) | (go_at_call 14; refine (works_c _).mono ?_; rintro e w7 ⟨rfl, hn⟩; have HN7 := Lib.hid hn; clear hn))
      go_ret
      exact ⟨rfl, (((((((HN0.out.tr HN1.out).tr HN2.out).tr HN3.out).tr HN4.out).tr HN5.out).tr HN6.out).tr HN7.out).nb⟩
end Go.Proofs.Ytglepciddhbmbaa
