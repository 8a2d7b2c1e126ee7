/-
  The walk of ImageSets.
-/
import Derived.Test.YtglepciddhbmbaaImgI
import Derived.Test.YtglepciddhbmbaaWReads
namespace Go.Proofs.Ytglepciddhbmbaa
open Go.RowKit

/-- What is used of a line's cells. -/
structure LineOf (l : List UInt8) (cs : Array Value) : Prop where
  cells : (l.map u8v).toArray = cs
  len : l.length = 16
  info : (Try.prog.info? 46).map (·.size) = some cs.size
  size : cs.size = 16
  all : cs.all (·.oneCell') = true
theorem lineOf (l : List UInt8) (hl : l.length = 16) : LineOf l (l.map u8v).toArray := ⟨rfl, hl, by rw [size46]; simp [hl], by simp [hl], u8v_all l⟩
theorem LineOf.eq {l l' : List UInt8} {cs cs' : Array Value} (h : LineOf l cs) (h' : LineOf l' cs') (w : World) : (Op.equalIn 10000 46 (.agg cs) (.agg cs')).run Try.prog w = .ok (decide (l = l')) w := by
  rw [← h.cells, ← h'.cells]
  exact eq46 w l l' h.len h'.len
theorem zlineOf : LineOf zline #[.int .u8 0, .int .u8 0, .int .u8 0, .int .u8 0, .int .u8 0, .int .u8 0, .int .u8 0, .int .u8 0, .int .u8 0, .int .u8 0, .int .u8 0, .int .u8 0, .int .u8 0, .int .u8 0, .int .u8 0, .int .u8 0] := by
  have := lineOf zline rfl
  rwa [← zcells] at this
theorem wpList_eqLine {ops : Array Oper} {rest : List Oper} {o : Oper} {act : Act} {w : World} {Q : Exit → Act → World → Prop} (hw : Region.wanted o (yielded ops act.tmps) = true) (x y : Operand) (ho : o.op = .binOp .eql 46 x y 46)
    {l l' : List UInt8} {cs cs' : Array Value} {b : Bool} (hx : act.eval x = .agg cs) (hy : act.eval y = .agg cs') (hl : LineOf l cs) (hl' : LineOf l' cs') (hb : decide (l = l') = b)
    (h : wpList Try.prog ops Q rest (act.put o.dst (.bool b)) w) : wpList Try.prog ops Q (o :: rest) act w := by
  refine wpList_want hw fun K hK => ?_
  unfold Oper.wp execOp
  simp only [ho, hx, hy, Sem.run_bind, run_eqGuard_agg w .eql 46 x y cs cs' guard46, Result.andThen_ok, run_eql_struct, hl.eq hl' w, Sem.run_pure, hb]
  exact hK _ _ h
theorem body_eqLine {ops : Array Oper} {S : World → Prop} {Ext : World → World → Prop} {F : Tmp → Value → World → Prop} {o : Oper} (hre : ∀ w, Ext w w) (x y : Tmp) (l l' : List UInt8) (cs cs' : Array Value) (b : Bool) (hop : o.op = .binOp .eql 46 (.tmp x) (.tmp y) 46)
    (hx : ∀ v w, F x v w → v = .agg cs) (hy : ∀ v w, F y v w → v = .agg cs') (hl : LineOf l cs) (hl' : LineOf l' cs') (hb : decide (l = l') = b) (h : ∀ w, F (o.dst.getD 0) (.bool b) w) : Body Try.prog ops S Ext F o := by
  refine body_val hre fun a w hs hf => ⟨.bool b, ?_, h w⟩
  have h1 := hx _ _ (hf x (by unfold opNeeds; simp [hop, Op.operands]))
  have h2 := hy _ _ (hf y (by unfold opNeeds; simp [hop, Op.operands]))
  have h3 : a.eval (.tmp x) = .agg cs := by simp [Act.eval, h1]
  have h4 : a.eval (.tmp y) = .agg cs' := by simp [Act.eval, h2]
  simp only [execOp, hop, h3, h4, Sem.run_bind, run_eqGuard_agg w .eql 46 (.tmp x) (.tmp y) cs cs' guard46, Result.andThen_ok, run_eql_struct, hl.eq hl' w, Sem.run_pure, hb]
/-- A fresh variable of a line, with a line stored into it. -/
theorem stored_line {w : World} {z cs : Array Value} : (w.alloc (.cells z 46)).heap[w.heap.size]? = some (.cells z 46 (0, 0)) ∧ ((w.alloc (.cells z 46)).setRow w.heap.size cs).heap[w.heap.size]? = some (.cells cs 46 (0, 0)) ∧ New w ((w.alloc (.cells z 46)).setRow w.heap.size cs) := by
  have h := Go.heap_alloc_new w (.cells z 46)
  exact ⟨h, setRow_self' h, ((Only.refl _ w).alloc _).setRow (fun h => absurd h (by omega)) _⟩

/-- Two variables of lines, and the argument's. -/
theorem two_lines {w w4 w5 w6 w7 : World} {cs cs2 cs3 : Array Value} (h1 : w7.heap[w6.heap.size]? = some (.cells cs3 46 (0, 0))) (h2 : New w6 w7) (h3 : New w5 w6) (h4 : w5.heap[w4.heap.size]? = some (.cells cs2 46 (0, 0))) (h5 : New w4 w5)
    (h6 : w4.heap[w.heap.size]? = some (.cells cs 46 (0, 0))) :
    w7.heap[w6.heap.size]? = some (.cells cs3 46 (0, 0)) ∧ w7.heap[w4.heap.size]? = some (.cells cs2 46 (0, 0)) ∧ w7.heap[w.heap.size]? = some (.cells cs 46 (0, 0)) :=
  ⟨h1, h2.heap (h3.heap h4 id) id, h2.heap (h3.heap (h5.heap h6 id) id) id⟩
/-- The variable, stored into once more. -/
theorem restored {w5 w6 w7 : World} {g : Nat} {cs2 cs3 cs : Array Value} (h1 : w7.heap[w6.heap.size]? = some (.cells cs3 46 (0, 0))) (h2 : New w6 w7) (h3 : New w5 w6) (h4 : w5.heap[g]? = some (.cells cs2 46 (0, 0))) :
    (w7.setRow w6.heap.size cs).heap[w6.heap.size]? = some (.cells cs 46 (0, 0)) ∧ New w6 (w7.setRow w6.heap.size cs) ∧ (w7.setRow w6.heap.size cs).heap[g]? = some (.cells cs2 46 (0, 0)) := by
  have h6 := h3.heap h4 id
  refine ⟨setRow_self' h1, h2.setRow (fun h => absurd h (by omega)) _, ?_⟩
  rw [setRow_other _ _ _ _ (by have := (Array.getElem?_eq_some_iff.1 h6).1; omega)]
  exact h2.heap h6 id

set_option maxRecDepth 100000 in
set_option maxHeartbeats 8000000 in
theorem walk_ImageSets (w : World) (v : Value) (hv : ∃ bs, ByteArg w v bs) (wide : Int) (_h1 : (Lit.int .i64 wide).wf = true) (a : Int) (h2 : (Lit.int .u32 a).wf = true) (o : Int) (h3 : (Lit.int .u32 o).wf = true)
    (lv : Value) (hl : ∃ l : List UInt8, l.length = 16 ∧ lv = lineV l) :
    Calls Try.prog 7 #[v, .int .i64 wide, .int .u32 a, .int .u32 o, lv] w fun e w' => e = .returned (.bool true) ∧ Below w.heap.size w w' := by
  obtain ⟨bs, hv⟩ := hv
  obtain ⟨ha0, ha1⟩ := bounds_u32 h2
  obtain ⟨a, rfl⟩ := Int.eq_ofNat_of_zero_le ha0
  obtain ⟨ho0, ho1⟩ := bounds_u32 h3
  obtain ⟨o, rfl⟩ := Int.eq_ofNat_of_zero_le ho0
  obtain ⟨l, hl, rfl⟩ := hl
  have hL := lineOf l hl
  unfold lineV
  generalize (l.map u8v).toArray = cs at *
  have hN0 : New w (w.alloc (.cells cs 46)) := (Only.refl _ w).alloc _
  have hv' : ByteArg (w.alloc (.cells cs 46)) v bs := by
    obtain ⟨va, cap, h1, h2, h3⟩ := hv
    refine ⟨va, cap, h1, h2, fun h => ?_⟩
    obtain ⟨b, o, h4, h5⟩ := h3 h
    exact ⟨b, o, h4, fun j u hj => hN0.cell (h5 j u hj) id⟩
  have HS := Lib.hid (sized_c v bs wide _ hv')
  have HN0 := Lib.hid hN0
  obtain ⟨va, cap, rfl, hm, _⟩ := hv
  unfold maxLen at hm
  have HA := Lib.hid (Go.heap_alloc_new w (.cells cs 46))
  have HL := Lib.hid hL
  clear hv' hN0 hL hl h2 h3 ha0 ho0
  by_cases hlen : 10000 < bs.length
  · go_enter Try.func7, Try.ntmps7
    go_wp2_with (go_at_call 14; refine (works_c _).mono ?_; rintro e w2 ⟨rfl, hn⟩; have HN2 := Lib.hid hn; clear hn)
    go_ret
    exact ⟨rfl, (HN0.out.tr HN2.out).nb⟩
  · go_enter Try.func7, Try.ntmps7
    go_wp2_with (go_at_call 16; refine HS.out.mono ?_; rintro e w1 ⟨g, ws, rfl, hok, hrow, hn⟩; have HOk := Lib.hid hok; have HR1 := Lib.hid hrow; have HN1 := Lib.hid hn; clear hok hrow hn)
    refine (of_yes g 0 _ _ ws _ rfl (own_bytes HR1.out) HOk.out).mono ?_
    rintro e w2 ⟨b, g2, cap2, rfl, hi, hn⟩
    have HI := Lib.hid hi
    have HN2 := Lib.hid hn
    have HA2 := Lib.hid (hn.heap (HN1.out.heap HA.out id) id)
    have hset := setline_any hi a l HL.out.len
    unfold lineV at hset
    rw [HL.out.cells] at hset
    have HSet := Lib.hid hset
    clear hi hn hset
    have hr := okSize_range HOk.out
    obtain ⟨hr1, hr2⟩ := hr
    go_wp2_with (first | (refine wpList_load_g (o := ⟨some 33, _, _, _, _, _⟩) rfl 46 _ rfl w.heap.size rfl 46 cs (0, 0) _ HA2.out Try.underlying46 rfl HL.out.info ?_) | (go_at_call 24; refine HSet.out.mono ?_; rintro e w3 ⟨rfl, hi, hn⟩; have HI3 := Lib.hid hi; have HN3 := Lib.hid hn; clear hi hn))
    obtain ⟨cs2, hc2⟩ : ∃ cs2, LineOf (lineSpec (setSpec ws a l) o) cs2 := ⟨_, lineOf _ (lineSpec_length _ _)⟩
    have hline := line_any HI3.out o
    unfold lineV at hline
    rw [hc2.cells] at hline
    have HLine := Lib.hid hline
    have HC2 := Lib.hid hc2
    clear hline hc2
    have hlen2 : (setSpec ws a l).length = ws.length := setSpec_length ws a l HL.out.len
    have herr : lineErr (setSpec ws a l).length o = if ws.length / 16 ≤ o then 4 else 0 := by rw [hlen2]; rfl
    rw [herr] at HLine
    clear hlen2 herr
    by_cases hge : ws.length / 16 ≤ o
    · rw [if_pos hge] at HLine
      have hz : lineSpec (setSpec ws a l) o = zline := by
        unfold lineSpec
        rw [setSpec_length ws a l HL.out.len, if_pos hge]
      have heq : Hid (decide (lineSpec (setSpec ws a l) o = zline) = true) := by show _ = _; rw [hz]; simp
      have HZ := Lib.hid zlineOf
      clear hz
      go_wp2_with (first | (go_at_call 13; refine (num_c _ _).mono ?_; rintro e w' ⟨rfl, rfl⟩) | (go_at_call 14; refine (works_c _).mono ?_; rintro e w6 ⟨rfl, hn⟩; have HN6 := Lib.hid hn; clear hn) | (go_at_call 25; refine HLine.out.mono ?_; rintro e w4 ⟨rfl, hn⟩; have HN4 := Lib.hid hn; clear hn; have HS4 := Lib.hid (stored_line (w := w4) (cs := cs2) (z := #[.int .u8 0, .int .u8 0, .int .u8 0, .int .u8 0, .int .u8 0, .int .u8 0, .int .u8 0, .int .u8 0, .int .u8 0, .int .u8 0, .int .u8 0, .int .u8 0, .int .u8 0, .int .u8 0, .int .u8 0, .int .u8 0]))) | ((with_reducible refine wpList_store_row (o := ⟨none, _, _, _, _, _⟩) ?_ 46 (.tmp 15) (.tmp 39) ?_ w4.heap.size cs2 ?_ ?_ 46 _ HS4.out.1 HC2.out.info ?_ HC2.out.all ?_); rfl; rfl; rfl; rfl; exact HC2.out.size.symm; generalize World.setRow _ _ cs2 = w5 at *) | ((with_reducible refine wpList_load_g (o := ⟨some 52, _, _, _, _, _⟩) ?_ 46 (.tmp 15) ?_ w4.heap.size ?_ 46 cs2 (0, 0) _ HS4.out.2.1 Try.underlying46 ?_ HC2.out.info ?_); rfl; rfl; rfl; rfl) | ((with_reducible refine wpList_eqLine (o := ⟨some 54, _, _, _, _, _⟩) ?_ (.tmp 52) (.tmp 53) ?_ (l := (lineSpec (setSpec ws a l) o)) (l' := zline) (cs := cs2) (cs' := #[.int .u8 0, .int .u8 0, .int .u8 0, .int .u8 0, .int .u8 0, .int .u8 0, .int .u8 0, .int .u8 0, .int .u8 0, .int .u8 0, .int .u8 0, .int .u8 0, .int .u8 0, .int .u8 0, .int .u8 0, .int .u8 0]) (b := true) ?_ ?_ HC2.out HZ.out heq.out ?_); rfl; rfl; rfl; rfl))
      go_ret
      exact ⟨rfl, ((((((HN0.out.tr HN1.out).tr HN2.out).trans HN3.out (by intro i hi he; have := HI.out.hg; have h1 := HN1.out.size; have h0 := HN0.out.size; omega)).tr HN4.out).tr HS4.out.2.2).tr HN6.out).nb⟩
    · rw [if_neg hge] at HLine
      have hsp := lineSpec_set ws a o l HL.out.len (by omega)
      obtain ⟨cs3, hc3⟩ : ∃ cs3, LineOf (lineSpec ws o) cs3 := ⟨_, lineOf _ (lineSpec_length _ _)⟩
      have HC3 := Lib.hid hc3
      have HR2 := Lib.hid (HN2.out.row HR1.out (by simp))
      have HR3 := Lib.hid (HN3.out.row HR2.out (by intro k hk; simp [Value.ownBlock] at hk; have := row_lt HR1.out; have h2 := HI.out.hg; omega))
      have HA3 := Lib.hid (HN3.out.heap HA2.out (by have h2 := HI.out.hg; have h1 := HN1.out.lt (show w.heap.size < _ from (Array.getElem?_eq_some_iff.1 HA.out).1); omega))
      have HRef : Hid (∀ W : World, W.ownsRow (w.alloc (.cells cs 46)).heap.size 5 1 (.slice (some ⟨g, 0, none⟩) ws.length ws.length) ws.length (ws.map u8v) → Calls Try.prog 26 #[.slice (some ⟨g, 0, none⟩) ws.length ws.length, .int .u32 o] W fun e w' => e = .returned (.agg cs3) ∧ New W w') := by
        intro W hW
        have h := refline_c g 0 ws.length ws.length o (lineSpec ws o) W (lineSpec_length _ _) (by omega) (by omega) (by
          intro k hk
          rw [lineSpec_length] at hk
          rw [Nat.zero_add, row_cell hW (by omega), get_u8v (by omega)]
          unfold lineSpec
          simp [hge])
        unfold lineV at h
        rwa [hc3.cells] at h
      clear hc3
      by_cases ha : ws.length / 16 ≤ a
      · have hne : ((o : Int) == (a : Int)) = false := by rw [beq_eq_false_iff_ne]; omega
        have hdec : decide ((a : Int) < (ws.length : Int) / 16) = false := by simp; omega
        have hle : lineErr ws.length a = 4 := by unfold lineErr; rw [if_pos ha]
        have heq : Hid (decide (lineSpec (setSpec ws a l) o = lineSpec ws o) = true) := by show _ = _; rw [hsp, if_neg (by omega)]; simp
        rw [hle]
        have Hle := Lib.hid hle
        clear hsp hle
        go_wp2_with (first | (go_at_call 13; refine (num_c _ _).mono ?_; rintro e w' ⟨rfl, rfl⟩) | (go_at_call 14; refine (works_c _).mono ?_; rintro e w8 ⟨rfl, hn⟩; have HN8 := Lib.hid hn; clear hn) | (go_at_call 25; refine HLine.out.mono ?_; rintro e w4 ⟨rfl, hn⟩; have HN4 := Lib.hid hn; have HR4 := Lib.hid (hn.row HR3.out (by simp)); have HA4 := Lib.hid (hn.heap HA3.out id); clear hn; have HS4 := Lib.hid (stored_line (w := w4) (cs := cs2) (z := #[.int .u8 0, .int .u8 0, .int .u8 0, .int .u8 0, .int .u8 0, .int .u8 0, .int .u8 0, .int .u8 0, .int .u8 0, .int .u8 0, .int .u8 0, .int .u8 0, .int .u8 0, .int .u8 0, .int .u8 0, .int .u8 0]))) | ((with_reducible refine wpList_store_row (o := ⟨none, _, _, _, _, _⟩) ?_ 46 (.tmp 15) (.tmp 39) ?_ w4.heap.size cs2 ?_ ?_ 46 _ HS4.out.1 HC2.out.info ?_ HC2.out.all ?_); rfl; rfl; rfl; rfl; exact HC2.out.size.symm; generalize World.setRow _ _ cs2 = w5 at *) | (go_at_call 26; refine (HRef.out _ (HS4.out.2.2.row HR4.out (by simp))).mono ?_; rintro e w6 ⟨rfl, hn⟩; have HN6 := Lib.hid hn; clear hn; have HS6 := Lib.hid (stored_line (w := w6) (cs := cs3) (z := #[.int .u8 0, .int .u8 0, .int .u8 0, .int .u8 0, .int .u8 0, .int .u8 0, .int .u8 0, .int .u8 0, .int .u8 0, .int .u8 0, .int .u8 0, .int .u8 0, .int .u8 0, .int .u8 0, .int .u8 0, .int .u8 0]))) | ((with_reducible refine wpList_store_row (o := ⟨none, _, _, _, _, _⟩) ?_ 46 (.tmp 18) (.tmp 66) ?_ w6.heap.size cs3 ?_ ?_ 46 _ HS6.out.1 HC3.out.info ?_ HC3.out.all ?_); rfl; rfl; rfl; rfl; exact HC3.out.size.symm; generalize World.setRow _ _ cs3 = w7 at *; have HF := Lib.hid (two_lines HS6.out.2.1 HS6.out.2.2 HN6.out HS4.out.2.1 HS4.out.2.2 HA4.out)) | ((with_reducible refine wpList_load_g (o := ⟨some 90, _, _, _, _, _⟩) ?_ 46 (.tmp 15) ?_ w4.heap.size ?_ 46 cs2 (0, 0) _ HF.out.2.1 Try.underlying46 ?_ HC2.out.info ?_); rfl; rfl; rfl; rfl) | ((with_reducible refine wpList_load_g (o := ⟨some 91, _, _, _, _, _⟩) ?_ 46 (.tmp 18) ?_ w6.heap.size ?_ 46 cs3 (0, 0) _ HF.out.1 Try.underlying46 ?_ HC3.out.info ?_); rfl; rfl; rfl; rfl) | ((with_reducible refine wpList_eqLine (o := ⟨some 92, _, _, _, _, _⟩) ?_ (.tmp 90) (.tmp 91) ?_ (l := (lineSpec (setSpec ws a l) o)) (l' := (lineSpec ws o)) (cs := cs2) (cs' := cs3) (b := true) ?_ ?_ HC2.out HC3.out heq.out ?_); rfl; rfl; rfl; rfl))
        go_ret
        exact ⟨rfl, (((((((HN0.out.tr HN1.out).tr HN2.out).trans HN3.out (by intro i hi he; have := HI.out.hg; have h1 := HN1.out.size; have h0 := HN0.out.size; omega)).tr HN4.out).tr HS4.out.2.2).tr HN6.out).tr HS6.out.2.2 |>.tr HN8.out).nb⟩
      · have hdec : decide ((a : Int) < (ws.length : Int) / 16) = true := by simp; omega
        have hle : lineErr ws.length a = 0 := by unfold lineErr; rw [if_neg ha]
        rw [hle]
        clear hle
        by_cases hoa : o = a
        · have hne : ((o : Int) == (a : Int)) = true := by rw [beq_iff_eq]; omega
          have heq : Hid (decide (lineSpec (setSpec ws a l) o = l) = true) := by show _ = _; rw [hsp, if_pos hoa]; simp
          clear hsp hoa
          go_wp2_with (first | (go_at_call 13; refine (num_c _ _).mono ?_; rintro e w' ⟨rfl, rfl⟩) | (go_at_call 14; refine (works_c _).mono ?_; rintro e w9 ⟨rfl, hn⟩; have HN9 := Lib.hid hn; clear hn) | (go_at_call 25; refine HLine.out.mono ?_; rintro e w4 ⟨rfl, hn⟩; have HN4 := Lib.hid hn; have HR4 := Lib.hid (hn.row HR3.out (by simp)); have HA4 := Lib.hid (hn.heap HA3.out id); clear hn; have HS4 := Lib.hid (stored_line (w := w4) (cs := cs2) (z := #[.int .u8 0, .int .u8 0, .int .u8 0, .int .u8 0, .int .u8 0, .int .u8 0, .int .u8 0, .int .u8 0, .int .u8 0, .int .u8 0, .int .u8 0, .int .u8 0, .int .u8 0, .int .u8 0, .int .u8 0, .int .u8 0]))) | ((with_reducible refine wpList_store_row (o := ⟨none, _, _, _, _, _⟩) ?_ 46 (.tmp 15) (.tmp 39) ?_ w4.heap.size cs2 ?_ ?_ 46 _ HS4.out.1 HC2.out.info ?_ HC2.out.all ?_); rfl; rfl; rfl; rfl; exact HC2.out.size.symm; generalize World.setRow _ _ cs2 = w5 at *) | (go_at_call 26; refine (HRef.out _ (HS4.out.2.2.row HR4.out (by simp))).mono ?_; rintro e w6 ⟨rfl, hn⟩; have HN6 := Lib.hid hn; clear hn; have HS6 := Lib.hid (stored_line (w := w6) (cs := cs3) (z := #[.int .u8 0, .int .u8 0, .int .u8 0, .int .u8 0, .int .u8 0, .int .u8 0, .int .u8 0, .int .u8 0, .int .u8 0, .int .u8 0, .int .u8 0, .int .u8 0, .int .u8 0, .int .u8 0, .int .u8 0, .int .u8 0]))) | ((with_reducible refine wpList_store_row (o := ⟨none, _, _, _, _, _⟩) ?_ 46 (.tmp 18) (.tmp 66) ?_ w6.heap.size cs3 ?_ ?_ 46 _ HS6.out.1 HC3.out.info ?_ HC3.out.all ?_); rfl; rfl; rfl; rfl; exact HC3.out.size.symm; generalize World.setRow _ _ cs3 = w7 at *; have HF := Lib.hid (two_lines HS6.out.2.1 HS6.out.2.2 HN6.out HS4.out.2.1 HS4.out.2.2 HA4.out)) | ((with_reducible refine wpList_load_g (o := ⟨some 70, _, _, _, _, _⟩) ?_ 46 (.tmp 9) ?_ w.heap.size ?_ 46 cs (0, 0) _ HF.out.2.2 Try.underlying46 ?_ HL.out.info ?_); rfl; rfl; rfl; rfl) | ((with_reducible refine wpList_store_row (o := ⟨none, _, _, _, _, _⟩) ?_ 46 (.tmp 18) (.tmp 70) ?_ w6.heap.size cs ?_ ?_ 46 _ HF.out.1 HL.out.info ?_ HL.out.all ?_); rfl; rfl; rfl; rfl; exact (HC3.out.size.trans HL.out.size.symm); have HC8 := Lib.hid (restored HF.out.1 HS6.out.2.2 HN6.out HS4.out.2.1 (cs := cs)); generalize World.setRow _ _ cs = w8 at *) | ((with_reducible refine wpList_load_g (o := ⟨some 90, _, _, _, _, _⟩) ?_ 46 (.tmp 15) ?_ w4.heap.size ?_ 46 cs2 (0, 0) _ HC8.out.2.2 Try.underlying46 ?_ HC2.out.info ?_); rfl; rfl; rfl; rfl) | ((with_reducible refine wpList_load_g (o := ⟨some 91, _, _, _, _, _⟩) ?_ 46 (.tmp 18) ?_ w6.heap.size ?_ 46 cs (0, 0) _ HC8.out.1 Try.underlying46 ?_ HL.out.info ?_); rfl; rfl; rfl; rfl) | ((with_reducible refine wpList_eqLine (o := ⟨some 92, _, _, _, _, _⟩) ?_ (.tmp 90) (.tmp 91) ?_ (l := (lineSpec (setSpec ws a l) o)) (l' := l) (cs := cs2) (cs' := cs) (b := true) ?_ ?_ HC2.out HL.out heq.out ?_); rfl; rfl; rfl; rfl))
          go_ret
          exact ⟨rfl, ((((((((HN0.out.tr HN1.out).tr HN2.out).trans HN3.out (by intro i hi he; have := HI.out.hg; have h1 := HN1.out.size; have h0 := HN0.out.size; omega)).tr HN4.out).tr HS4.out.2.2).tr HN6.out).tr HC8.out.2.1).tr HN9.out).nb⟩
        · have hne : ((o : Int) == (a : Int)) = false := by rw [beq_eq_false_iff_ne]; omega
          have heq : Hid (decide (lineSpec (setSpec ws a l) o = lineSpec ws o) = true) := by show _ = _; rw [hsp, if_neg hoa]; simp
          clear hsp hoa
          go_wp2_with (first | (go_at_call 13; refine (num_c _ _).mono ?_; rintro e w' ⟨rfl, rfl⟩) | (go_at_call 14; refine (works_c _).mono ?_; rintro e w8 ⟨rfl, hn⟩; have HN8 := Lib.hid hn; clear hn) | (go_at_call 25; refine HLine.out.mono ?_; rintro e w4 ⟨rfl, hn⟩; have HN4 := Lib.hid hn; have HR4 := Lib.hid (hn.row HR3.out (by simp)); have HA4 := Lib.hid (hn.heap HA3.out id); clear hn; have HS4 := Lib.hid (stored_line (w := w4) (cs := cs2) (z := #[.int .u8 0, .int .u8 0, .int .u8 0, .int .u8 0, .int .u8 0, .int .u8 0, .int .u8 0, .int .u8 0, .int .u8 0, .int .u8 0, .int .u8 0, .int .u8 0, .int .u8 0, .int .u8 0, .int .u8 0, .int .u8 0]))) | ((with_reducible refine wpList_store_row (o := ⟨none, _, _, _, _, _⟩) ?_ 46 (.tmp 15) (.tmp 39) ?_ w4.heap.size cs2 ?_ ?_ 46 _ HS4.out.1 HC2.out.info ?_ HC2.out.all ?_); rfl; rfl; rfl; rfl; exact HC2.out.size.symm; generalize World.setRow _ _ cs2 = w5 at *) | (go_at_call 26; refine (HRef.out _ (HS4.out.2.2.row HR4.out (by simp))).mono ?_; rintro e w6 ⟨rfl, hn⟩; have HN6 := Lib.hid hn; clear hn; have HS6 := Lib.hid (stored_line (w := w6) (cs := cs3) (z := #[.int .u8 0, .int .u8 0, .int .u8 0, .int .u8 0, .int .u8 0, .int .u8 0, .int .u8 0, .int .u8 0, .int .u8 0, .int .u8 0, .int .u8 0, .int .u8 0, .int .u8 0, .int .u8 0, .int .u8 0, .int .u8 0]))) | ((with_reducible refine wpList_store_row (o := ⟨none, _, _, _, _, _⟩) ?_ 46 (.tmp 18) (.tmp 66) ?_ w6.heap.size cs3 ?_ ?_ 46 _ HS6.out.1 HC3.out.info ?_ HC3.out.all ?_); rfl; rfl; rfl; rfl; exact HC3.out.size.symm; generalize World.setRow _ _ cs3 = w7 at *; have HF := Lib.hid (two_lines HS6.out.2.1 HS6.out.2.2 HN6.out HS4.out.2.1 HS4.out.2.2 HA4.out)) | ((with_reducible refine wpList_load_g (o := ⟨some 90, _, _, _, _, _⟩) ?_ 46 (.tmp 15) ?_ w4.heap.size ?_ 46 cs2 (0, 0) _ HF.out.2.1 Try.underlying46 ?_ HC2.out.info ?_); rfl; rfl; rfl; rfl) | ((with_reducible refine wpList_load_g (o := ⟨some 91, _, _, _, _, _⟩) ?_ 46 (.tmp 18) ?_ w6.heap.size ?_ 46 cs3 (0, 0) _ HF.out.1 Try.underlying46 ?_ HC3.out.info ?_); rfl; rfl; rfl; rfl) | ((with_reducible refine wpList_eqLine (o := ⟨some 92, _, _, _, _, _⟩) ?_ (.tmp 90) (.tmp 91) ?_ (l := (lineSpec (setSpec ws a l) o)) (l' := (lineSpec ws o)) (cs := cs2) (cs' := cs3) (b := true) ?_ ?_ HC2.out HC3.out heq.out ?_); rfl; rfl; rfl; rfl))
          go_ret
          exact ⟨rfl, (((((((HN0.out.tr HN1.out).tr HN2.out).trans HN3.out (by intro i hi he; have := HI.out.hg; have h1 := HN1.out.size; have h0 := HN0.out.size; omega)).tr HN4.out).tr HS4.out.2.2).tr HN6.out).tr HS6.out.2.2 |>.tr HN8.out).nb⟩
end Go.Proofs.Ytglepciddhbmbaa
