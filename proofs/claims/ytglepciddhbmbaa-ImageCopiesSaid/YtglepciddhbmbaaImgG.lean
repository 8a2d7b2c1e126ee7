/-
  The contracts of image.line with its two closures, of Line and SetLine, and of the reference's Line.
-/
import Derived.Test.YtglepciddhbmbaaImgOpen
namespace Go.Proofs.Ytglepciddhbmbaa
open Go.RowKit

/-- A line as a value. -/
def lineV (l : List UInt8) : Value := .agg (l.map u8v).toArray

theorem row_cells {B : Nat} {w : World} {l : List UInt8} {T : TypeId} (h : w.heap[B]? = some (.cells (l.map u8v).toArray T (0, 0))) : ∀ j u, (l.map u8v)[j]? = some u → w.cell? ((⟨B, 0, none⟩ : Addr).add j) = some u := by
  intro j u hj
  rw [addr_add, Nat.zero_add, head_cell h]
  simpa using hj

set_option maxHeartbeats 1000000 in
theorem setline1 (g o c B : Nat) (cur : Array Value) (l : List UInt8) (w : World) (hl : l.length = 16) (hg : w.heap[g]? = some (.cells cur 5 (0, 0))) (hfit : o + 16 ≤ cur.size)
    (hB : w.heap[B]? = some (.cells (l.map u8v).toArray 46 (0, 0))) :
    Calls Try.prog 35 #[.slice (some ⟨g, o, none⟩) 16 c, .pointer (some ⟨B, 0, none⟩)] w (Wrote w g o cur (l.map u8v)) := by
  have hcp := run_copy_row (P := Try.prog) w 30 30 3 5 g o 16 c ⟨B, 0, none⟩ 16 16 cur 5 (l.map u8v) Try.underlying30 size5 hg (by simp [hl]) (row_cells hB) (by simp [hl]; omega) (u8v_one _)
  have Hg := Lib.hid hg
  clear hg hB
  go_enter Try.func35, Try.ntmps35
  go_wp2
  go_end0
  refine ⟨rfl, ?_, (Only.refl (fun k => k = g) w).setRow (fun _ => rfl) _⟩
  have := setRow_self' (cs := upd cur o (l.map u8v)) Hg.out
  simpa [upd, hl] using this

theorem Img.spliced {base b g cap : Nat} {bs : List UInt8} {w w' : World} (h : Img base w b g cap bs) {o : Nat} {xs : List UInt8} {cur : Array Value} {e : Ending} (hcur : w.heap[g]? = some (.cells cur 5 (0, 0))) (hfit : o + xs.length ≤ bs.length)
    (k : Wrote w g o cur (xs.map u8v) e w') : Img base w' b g cap (bs.take o ++ (xs ++ bs.drop (o + xs.length))) := by
  obtain ⟨_, hg, hO⟩ := k
  have hl : (bs.take o ++ (xs ++ bs.drop (o + xs.length))).length = bs.length := by simp; omega
  obtain ⟨cur', h0, h1, h2, h3, h4⟩ := row_at h.row
  obtain rfl : cur' = cur := by rw [hcur] at h0; simpa using h0.symm
  refine ⟨h.hb, h.hg, h.ne, by rw [hl]; exact h.ok, by rw [hl]; exact hO.heap h.head h.ne, ?_⟩
  rw [hl]
  refine row_mk h.hg hg h1 h2 ?_ ?_
  · rw [size_upd _ _ _ (by simp; omega), h3]
  · rw [Nat.mul_one] at h4 ⊢
    have hs := take_splice cur'.toList (xs.map u8v) o bs.length (by simp; omega) (by simp; omega)
    simp only [List.length_map] at hs
    simp only [upd, List.length_map]
    rw [hs, h4]
    simp

def LineHas (w : World) (B : Nat) (l : List UInt8) (e : Ending) (w' : World) : Prop := e = .returned (.tuple #[]) ∧ w'.heap[B]? = some (.cells (l.map u8v).toArray 46 (0, 0)) ∧ Only (fun k => k = B) w w'

set_option maxHeartbeats 1000000 in
theorem line1 (g o c B : Nat) (cur : Array Value) (l : List UInt8) (w : World) (hl : l.length = 16) (hcell : ∀ j u, (l.map u8v)[j]? = some u → w.cell? ⟨g, o + j, none⟩ = some u) (hc : cur.size = 16)
    (hB : w.heap[B]? = some (.cells cur 46 (0, 0))) :
    Calls Try.prog 36 #[.slice (some ⟨g, o, none⟩) 16 c, .pointer (some ⟨B, 0, none⟩)] w (LineHas w B l) := by
  have hcp := run_copy_row (P := Try.prog) w 30 30 3 5 B 0 16 16 ⟨g, o, none⟩ 16 c cur 46 (l.map u8v) Try.underlying30 size5 hB (by simp [hl]) (fun j u hj => by rw [addr_add]; exact hcell j u hj) (by simp [hl, hc]) (u8v_one _)
  have HB := Lib.hid hB
  have Hc := Lib.hid hc
  have Hl := Lib.hid hl
  clear hB hcell hc hl
  go_enter Try.func36, Try.ntmps36
  go_wp2
  go_end0
  refine ⟨rfl, ?_, (Only.refl (fun k => k = B) w).setRow (fun _ => rfl) _⟩
  have := setRow_self' (cs := (l.map u8v).toArray) HB.out
  have hd : cur.toList.drop 16 = [] := List.drop_eq_nil_of_le (by have := Hc.out; simp; omega)
  simpa [Hl.out, hd] using this

/-- What is wrong with a line's number: 0: nothing. -/
def lineErr (len : Nat) (number : Nat) : Int := if len / 16 ≤ number then 4 else 0

set_option maxHeartbeats 1000000 in
theorem linef_nil (a : Int) (v : Value) (w : World) : Calls Try.prog 34 #[.pointer none, .int .u32 a, v] w fun e w' => e = .returned (.int .i64 1) ∧ w = w' := by
  go_enter Try.func34, Try.ntmps34
  go_wp2_with (go_at_call 31; refine (none_nil _).mono ?_; rintro e w' ⟨rfl, rfl⟩)
  go_ret
  exact ⟨rfl, rfl⟩

set_option maxHeartbeats 1000000 in
theorem linef_no {base b g cap : Nat} {bs : List UInt8} {w : World} (h : Img base w b g cap bs) (a : Nat) (v : Value) (hbad : bs.length / 16 ≤ a) :
    Calls Try.prog 34 #[.pointer (some ⟨b, 0, none⟩), .int .u32 a, v] w fun e w' => e = .returned (.int .i64 4) ∧ w = w' := by
  have hp := h.pos
  have hc := h.cell
  clear h
  go_enter Try.func34, Try.ntmps34
  go_wp2_with (go_at_call 31; refine (none_some _ _ _ _ _ hc).mono ?_; rintro e w' ⟨rfl, rfl⟩)
  go_ret
  exact ⟨rfl, rfl⟩

set_option maxHeartbeats 1000000 in
theorem linef_set {base b g cap : Nat} {bs : List UInt8} {w : World} (h : Img base w b g cap bs) (a : Nat) (ha : a < bs.length / 16) (B : Nat) (l : List UInt8) (hl : l.length = 16)
    (hB : w.heap[B]? = some (.cells (l.map u8v).toArray 46 (0, 0))) :
    Calls Try.prog 34 #[.pointer (some ⟨b, 0, none⟩), .int .u32 a, .func (.func 35) #[] #[.pointer (some ⟨B, 0, none⟩)]] w fun e w' => e = .returned (.int .i64 0) ∧
      Img base w' b g cap (bs.take (16 * a) ++ (l ++ bs.drop (16 * a + 16))) ∧ Only (fun k => k = g) w w' := by
  have hp := h.pos
  have hc := h.cell
  obtain ⟨cur, hcur, hcap, hmax, hsz, _⟩ := row_at h.row
  unfold maxLen at hmax
  have HR : Hid (∀ c, Calls Try.prog 35 #[.slice (some ⟨g, a * 16, none⟩) 16 c, .pointer (some ⟨B, 0, none⟩)] w (Wrote w g (a * 16) cur (l.map u8v))) := fun c =>
    setline1 g (a * 16) c B cur l w hl hcur (by omega) hB
  have HI := Lib.hid h
  have Hl := Lib.hid hl
  have Hcur := Lib.hid hcur
  clear h hcur hB hl hsz
  go_enter Try.func34, Try.ntmps34
  go_wp2_with (first | (go_at_call 31; refine (none_some _ _ _ _ _ hc).mono ?_; rintro e w' ⟨rfl, rfl⟩) | (go_at_call 35; refine (HR.out _).mono ?_; rintro e w' ⟨rfl, hg, hO⟩; have HG := Lib.hid hg; have HO := Lib.hid hO; clear hg hO))
  go_ret
  refine ⟨rfl, ?_, HO.out⟩
  have := HI.out.spliced (e := .returned (.tuple #[])) Hcur.out (xs := l) (by have := Hl.out; omega) ⟨rfl, HG.out, HO.out⟩
  rwa [Hl.out, Nat.mul_comm a 16] at this

set_option maxHeartbeats 1000000 in
theorem linef_get {base b g cap : Nat} {bs : List UInt8} {w : World} (h : Img base w b g cap bs) (a : Nat) (ha : a < bs.length / 16) (B : Nat) (cs : Array Value) (hcs : cs.size = 16)
    (hB : w.heap[B]? = some (.cells cs 46 (0, 0))) :
    Calls Try.prog 34 #[.pointer (some ⟨b, 0, none⟩), .int .u32 a, .func (.func 36) #[] #[.pointer (some ⟨B, 0, none⟩)]] w fun e w' => e = .returned (.int .i64 0) ∧
      w'.heap[B]? = some (.cells ((bs.drop (16 * a)).take 16 |>.map u8v).toArray 46 (0, 0)) ∧ Only (fun k => k = B) w w' := by
  have hp := h.pos
  have hc := h.cell
  obtain ⟨_, _, hcap, hmax, _⟩ := row_at h.row
  unfold maxLen at hmax
  have HR : Hid (∀ c, Calls Try.prog 36 #[.slice (some ⟨g, a * 16, none⟩) 16 c, .pointer (some ⟨B, 0, none⟩)] w (LineHas w B ((bs.drop (16 * a)).take 16))) := by
    intro c
    refine line1 g (a * 16) c B cs _ w (by simp; omega) ?_ hcs hB
    intro j u hj
    obtain ⟨hj1, hj2⟩ := take_map_get hj
    rw [row_cell h.row (by omega), Nat.mul_comm a 16, hj1]
  clear h hB hcs
  go_enter Try.func34, Try.ntmps34
  go_wp2_with (first | (go_at_call 31; refine (none_some _ _ _ _ _ hc).mono ?_; rintro e w' ⟨rfl, rfl⟩) | (go_at_call 36; refine (HR.out _).mono ?_; rintro e w' ⟨rfl, hg, hO⟩; have HG := Lib.hid hg; have HO := Lib.hid hO; clear hg hO))
  go_ret
  exact ⟨rfl, HG.out, HO.out⟩

/-- A line of noughts. -/
def zline : List UInt8 := List.replicate 16 0
/-- What Line tells. -/
def lineSpec (bs : List UInt8) (a : Nat) : List UInt8 := if bs.length / 16 ≤ a then zline else (bs.drop (16 * a)).take 16

theorem size46 : (Try.prog.info? 46).map (·.size) = some 16 := by kernel_rfl
theorem results_line {fn : Func} {p u : Tmp} (h : fn.results = #[.cell p 46, .tmp u]) (tmps : Array Value) (w : World) (g : Nat) (cs : Array Value) (n : Int)
    (hp : tmps.getD p undef = .pointer (some ⟨g, 0, none⟩)) (hu : tmps.getD u undef = .int .i64 n) (hg : w.heap[g]? = some (.cells cs 46 (0, 0))) (hs : cs.size = 16) :
    (results fn tmps).run Try.prog w = .ok (.tuple #[.agg cs, .int .i64 n]) w := by
  rw [results_cell_tmp h, hp, hu]
  simp [asAddr, run_loadVar_row w g 46 46 cs (0, 0) _ hg Try.underlying46 rfl (by rw [size46, hs]), Result.andThen]
theorem u8v_all (l : List UInt8) : (l.map u8v).toArray.all (·.oneCell') = true := by
  rw [Array.all_eq_true_iff_forall_mem]
  intro v hv
  exact u8v_one l v (by simpa using hv)
theorem lineSpec_length (bs : List UInt8) (a : Nat) : (lineSpec bs a).length = 16 := by
  unfold lineSpec
  split
  · rfl
  · simp
    omega

set_option maxHeartbeats 1000000 in
theorem line_any {base b g cap : Nat} {bs : List UInt8} {w : World} (h : Img base w b g cap bs) (a : Nat) :
    Calls Try.prog 25 #[.pointer (some ⟨b, 0, none⟩), .int .u32 a] w fun e w' => e = .returned (.tuple #[lineV (lineSpec bs a), .int .i64 (lineErr bs.length a)]) ∧ New w w' := by
  have hz : (#[.int .u8 0, .int .u8 0, .int .u8 0, .int .u8 0, .int .u8 0, .int .u8 0, .int .u8 0, .int .u8 0, .int .u8 0, .int .u8 0, .int .u8 0, .int .u8 0, .int .u8 0, .int .u8 0, .int .u8 0, .int .u8 0] : Array Value) = (zline.map u8v).toArray := by rfl
  have H : Hid (∀ z, z = (zline.map u8v).toArray → Calls Try.prog 34 #[.pointer (some ⟨b, 0, none⟩), .int .u32 a, .func (.func 36) #[] #[.pointer (some ⟨w.heap.size + 1, 0, none⟩)]] ((w.alloc (.cells z 46)).alloc (.cells z 46)) fun e w' => e = .returned (.int .i64 (lineErr bs.length a)) ∧
      w'.heap[w.heap.size + 1]? = some (.cells ((lineSpec bs a).map u8v).toArray 46 (0, 0)) ∧ w'.heap[w.heap.size]? = some (.cells (zline.map u8v).toArray 46 (0, 0)) ∧ New w w') := by
    rintro z rfl
    have hN : New w ((w.alloc (.cells (zline.map u8v).toArray 46)).alloc (.cells (zline.map u8v).toArray 46)) := ((Only.refl _ w).alloc _).alloc _
    have h1 := Go.heap_alloc2_new w (.cells (zline.map u8v).toArray 46) (.cells (zline.map u8v).toArray 46)
    have h0 := Go.heap_alloc2_old w (.cells (zline.map u8v).toArray 46) (.cells (zline.map u8v).toArray 46)
    unfold lineErr lineSpec
    by_cases hge : bs.length / 16 ≤ a
    · rw [if_pos hge, if_pos hge]
      refine (linef_no (h.new hN) a _ hge).mono ?_
      rintro e w' ⟨rfl, rfl⟩
      exact ⟨rfl, h1, h0, hN⟩
    · rw [if_neg hge, if_neg hge]
      refine (linef_get (h.new hN) a (by omega) (w.heap.size + 1) _ (by simp [zline]) h1).mono ?_
      rintro e w' ⟨rfl, h2, h3⟩
      exact ⟨rfl, h2, h3.heap h0 (by omega), hN.trans h3 (by intro i hi he; omega)⟩
  have hs := lineSpec_length bs a
  have hall := u8v_all (lineSpec bs a)
  unfold lineV
  generalize hcs : ((lineSpec bs a).map u8v).toArray = cs at *
  have hsz : (Try.prog.info? 46).map (·.size) = some cs.size := by rw [size46, ← hcs]; simp [hs]
  have hold : (zline.map u8v).toArray.size = cs.size := by rw [← hcs]; simp [hs, zline]
  have HF := Lib.hid (And.intro hsz (And.intro hold hall))
  have Hz := Lib.hid hz
  clear h hs hall hcs hsz hold hz
  go_enter Try.func25, Try.ntmps25
  go_wp2_with (first | (go_at_call 34; refine (H.out _ Hz.out).mono ?_; rintro e w1 ⟨rfl, h1, h0, hn⟩; have HN := Lib.hid (And.intro h1 (And.intro h0 hn)); clear h1 h0 hn) | (refine wpList_load_row (o := ⟨some 12, _, _, _, _, _⟩) rfl 46 _ rfl (w.heap.size + 1) rfl 46 cs (0, 0) _ HN.out.1 Try.underlying46 rfl HF.out.1 ?_) | (refine wpList_store_row (o := ⟨none, _, _, _, _, _⟩) rfl 46 _ _ rfl w.heap.size cs rfl rfl 46 _ HN.out.2.1 HF.out.1 HF.out.2.1 HF.out.2.2 ?_))
  refine bodyPost_ret (results_line rfl _ _ w.heap.size cs _ rfl rfl (setRow_self' HN.out.2.1) (by have := HF.out.2.1; simpa [zline] using this.symm)) rfl ⟨rfl, HN.out.2.2.setRow (fun h => absurd h (by omega)) _⟩

set_option maxHeartbeats 1000000 in
theorem setline_no {base b g cap : Nat} {bs : List UInt8} {w : World} (h : Img base w b g cap bs) (a : Nat) (l : List UInt8) (hbad : bs.length / 16 ≤ a) :
    Calls Try.prog 24 #[.pointer (some ⟨b, 0, none⟩), .int .u32 a, lineV l] w fun e w' => e = .returned (.int .i64 4) ∧ New w w' := by
  unfold lineV
  generalize hcs : (l.map u8v).toArray = cs
  have hN : New w (w.alloc (.cells cs 46)) := (Only.refl _ w).alloc _
  have H := Lib.hid fun v => linef_no (h.new hN) a v hbad
  clear h hN hbad hcs
  go_enter Try.func24, Try.ntmps24
  go_wp2_with (go_at_call 34; refine (H.out _).mono ?_; rintro e w' ⟨rfl, rfl⟩)
  go_ret
  exact ⟨rfl, (Only.refl _ w).alloc _⟩

set_option maxHeartbeats 1000000 in
theorem setline_yes {base b g cap : Nat} {bs : List UInt8} {w : World} (h : Img base w b g cap bs) (a : Nat) (l : List UInt8) (hl : l.length = 16) (ha : a < bs.length / 16) :
    Calls Try.prog 24 #[.pointer (some ⟨b, 0, none⟩), .int .u32 a, lineV l] w fun e w' => e = .returned (.int .i64 0) ∧
      Img base w' b g cap (bs.take (16 * a) ++ (l ++ bs.drop (16 * a + 16))) ∧ Only (fun k => k = g) w w' := by
  have hN : New w (w.alloc (.cells (l.map u8v).toArray 46)) := (Only.refl _ w).alloc _
  have H := Lib.hid (linef_set (h.new hN) a ha w.heap.size l hl (Go.heap_alloc_new w _))
  unfold lineV
  generalize hcs : (l.map u8v).toArray = cs at *
  clear h hN ha hl hcs
  go_enter Try.func24, Try.ntmps24
  go_wp2_with (go_at_call 34; refine H.out.mono ?_; rintro e w' ⟨rfl, hi, hn⟩; have HI := Lib.hid hi; have HN := Lib.hid hn; clear hi hn)
  go_ret
  exact ⟨rfl, HI.out, ((Only.refl _ w).alloc _).tr HN.out⟩

set_option maxHeartbeats 1000000 in
theorem setline_nil (a : Int) (l : List UInt8) (w : World) : Calls Try.prog 24 #[.pointer none, .int .u32 a, lineV l] w fun e w' => e = .returned (.int .i64 1) ∧ New w w' := by
  unfold lineV
  generalize hcs : (l.map u8v).toArray = cs
  clear hcs
  go_enter Try.func24, Try.ntmps24
  go_wp2_with (go_at_call 34; refine (linef_nil a _ _).mono ?_; rintro e w' ⟨rfl, rfl⟩)
  go_ret
  exact ⟨rfl, (Only.refl _ w).alloc _⟩
end Go.Proofs.Ytglepciddhbmbaa
